/- The program's MirrorNet returns what the reference's returns, for all texts (the law lets longer texts by). No further condition. -/
import Derived.Test.YtdncpkppkafkpaaGreatDoorKFnExactMirrorNet3

namespace Go.Proofs.YtdncpkppkafkpaaGreatDoor
open Go.RowKit Go.Proofs.YtdncpkppkafkpaaGreatDoor.P Go.Proofs.YtdncpkppkafkpaaGreatDoorW.PrintWords Go.Proofs.YtdncpkppkafkpaaGreatDoorW.PrintLast
set_option linter.unusedVariables false
set_option linter.unusedSimpArgs false
theorem six_getW (l : List ByteArray) (j : Nat) (h : j < l.length) : rdOf ByteArray.empty l (j : Int) = l[j] := by
 unfold rdOf
 rw [Int.toNat_natCast, List.getD_eq_getElem?_getD, List.getElem?_eq_getElem h]; rfl
theorem six_bt (s : ByteArray) (i : Nat) (h : i < s.data.toList.length) : bt s (i : Int) = ((s.data.toList[i]).toNat : Int) := by
 have h' : i < s.size := by have : s.data.toList.length = s.size := (by rw [Array.length_toList]; rfl); omega
 unfold bt
 rw [dif_pos (by simpa using h')]
 simp only [Int.toNat_natCast, Array.getElem_toList]
 rfl
def sixT14 : Bool × List (List Nat × List Nat) := (true, [([], []), ([], []), ([], []), ([], []), ([], []), ([3, 4], [3, 4]), ([5], [5]), ([2, 6], [2, 6]), ([], []), ([], []), ([], []), ([9, 10], [9, 10]), ([11], [11]), ([12], [12]), ([13], [13]), ([8, 14, 7], [8, 14]), ([7, 15, 2, 3, 4, 5, 6, 7], [2, 7]), ([15, 16, 2, 3, 4, 5, 6, 7, 8, 9, 10, 11, 12, 13, 14, 15, 16], [8, 15]), ([0, 1, 17, 0, 1, 2, 3, 4, 5, 6, 7, 8, 9, 10, 11, 12, 13, 14, 15, 16, 17], [0, 1])])
def sixB14 : List Nat := [0, 0, 0, 0, 0, 24, 56, 124, 0, 0, 0, 1536, 3584, 7680, 15872, 32764, 65532, 131068, 262143]
def sixT17 : Bool × List (List Nat × List Nat) := (true, [([], []), ([0], [0]), ([1], [1]), ([2], [2]), ([3], [3]), ([4, 3, 3], [3, 4]), ([3], [3]), ([6, 3], [3, 6]), ([7, 3], [3, 7]), ([8, 3], [3, 8]), ([5, 9, 3], [3, 5, 9]), ([3, 10], [3, 10]), ([11, 5], [11]), ([12], [12]), ([13, 12, 12], [12, 13]), ([14, 12], [12, 14]), ([12, 15], [12, 15])])
def sixB17 : List Nat := [0, 1, 3, 7, 15, 31, 15, 79, 207, 463, 1023, 2047, 4095, 8191, 16383, 32767, 65535]
theorem infoCC : (Tryz.prog.info? 75).map (fun i => (i.zero, i.size, i.bytes)) = some (some (.agg #[(.int .i64 0), (.int .i64 0)]), 2, 16) := by kernel_rfl
theorem sixTab14 : rtab .any (opsOf Tryz.f25 14) = sixT14 := by kernel_rfl
theorem sixBits14 : waitsOk sixT14.2 sixB14 = true := by kernel_rfl
theorem sixTab17 : rtab .any (opsOf Tryz.f25 17) = sixT17 := by kernel_rfl
theorem sixBits17 : waitsOk sixT17.2 sixB17 = true := by kernel_rfl
namespace P
set_option maxHeartbeats 4000000 in
set_option maxRecDepth 100000 in
theorem qGB.calls (k : Nat) (a0 : ByteArray) (r1 : List CC) (r2 : List Int) (r3 : Bool) (w : World) (hL : Laid w) (h : qGB.f k a0 = some (r1, r2, r3)) :
    Calls Tryz.prog 25 #[.string a0] w fun e w' => ∃ v0_ v1_ : Value, e = .returned (.tuple #[v0_, v1_, .bool r3]) ∧ Kd.R k75 75 w' w.heap.size (fun _ => True) v0_ r1 ∧ Kd.R (Kd.int .i64) 3 w' w.heap.size (fun _ => True) v1_ r2 ∧ Below w.heap.size w w' := by
  unfold qGB.f at h
  by_cases hs : a0.size < 4294967281
  case neg => rw [if_neg hs] at h; cases h
  rw [if_pos hs] at h
  have hsp : strings_Split.f a0 ⟨#[47]⟩ = some (rowsOf6 a0) := if_pos ⟨hs, by decide⟩
  have hlen := qRC a0
  have hcnt := Lib.countB_le ⟨#[47]⟩ (by decide) a0.size a0 (Nat.le_refl _)
  have hrs : ∀ r ∈ rowsOf6 a0, r.size < 4294967281 := fun r hr => Nat.lt_of_le_of_lt (split_size a0 r hr) hs
  unfold sixAll at h
  generalize rowsOf6 a0 = L at h hsp hlen hrs
  have hLn : L.length ≤ 4294967281 := by omega
  have hL0 : 0 < L.length := by omega
  clear hlen hcnt hs
  obtain ⟨r0, hr0⟩ : ∃ r0, L[0] = r0 := ⟨_, rfl⟩
  have hhd : L.headD ByteArray.empty = r0 := by rw [← hr0]; cases L with | nil => simp at hL0 | cons a l => rfl
  rw [hhd] at h
  obtain ⟨T, hT⟩ : ∃ T, sixRows r0.size 0 L ⟨[], [], []⟩ = T := ⟨_, rfl⟩
  rw [hT] at h
  have HT := Aside0.mk hT
  have HF := Aside0.mk h
  have HSP := Aside0.mk hsp
  have HRS := Aside0.mk hrs
  have HL0 := Aside0.mk hL0
  have HLN := Aside0.mk hLn
  have HLD := Aside0.mk hL
  have HLP := Aside0.mk (show (0 : Int) < (L.length : Int) by omega)
  have HR0 := Aside0.mk (show rdOf ByteArray.empty L 0 = r0 from (six_getW L 0 hL0).trans hr0)
  clear hT h hsp hrs hLn hL hhd hr0 hL0
  have hu := Tryz.underlying75
  go_enter Tryz.func25, Tryz.ntmps25
  have B0 := Aside0.mk (Below.refl w.heap.size w)
  have hmm := @run_makeMap Tryz.prog
  go_wp2_with (first
    | ((with_reducible refine qX (N := 12) rfl ?_); refine Kd.R_lit k75 w.heap.size 75 ?hg (N := 12) ?hd (xs := ([] : List CC)) (inner := []) (ok := fun _ => True) (okp := fun _ => True) ?hr ?hp (fun _ hk => hk) trivial B0.out B0.out.size (by simp) ?_; (case hd => rfl); (case hg => rfl); (case hr => first | (go_simp; done) | (go_simp; rfl)); (case hp => exact (Reps.none _ _)); intro vc wA ho hb hg_ hnew_; have C1 := Aside0.mk ho; have B1 := Aside0.mk hb; clear ho hb hg_ hnew_ B0)
    | ((with_reducible refine qX (N := 13) rfl ?_); refine Kd.R_lit (Kd.int .i64) w.heap.size 3 ?hg (N := 13) ?hd (xs := ([] : List Int)) (inner := []) (ok := fun _ => True) (okp := fun _ => True) ?hr ?hp (fun _ hk => hk) trivial B1.out B1.out.size (by simp) ?_; (case hd => rfl); (case hg => rfl); (case hr => first | (go_simp; done) | (go_simp; rfl)); (case hp => exact (Reps.none _ _)); intro vd wB ho hb hg_ hnew_; have C2 := Aside0.mk (qoB C1.out hg_); have D2 := Aside0.mk ho; have B2 := Aside0.mk hb; clear ho hb hg_ hnew_ B1 C1)
    | ((with_reducible refine qb (f := 17) rfl ?_); refine qRA (some 15) rfl rfl Tryz.func17 (by kernel_rfl) rfl #[.string a0, .string ⟨#[47]⟩] rfl (by (try simp only [List.map_toArray, List.map_cons, List.map_nil]); first | done | rfl | simp) ?_; refine (strings_Split.calls a0 ⟨#[47]⟩ L _ (Laid.below HLD.out B2.out) HSP.out).mono ?_; rintro e wC ⟨vw, rfl, hw, hb⟩; refine ⟨_, rfl, ?_⟩; have C3 := Aside0.mk (Kd.qW C2.out hb); have D3 := Aside0.mk (Kd.qW D2.out hb); have L3 := Aside0.mk (Kd.qAA hw B2.out.size); have B3 := Aside0.mk (qSA B2.out B2.out.size hb); obtain ⟨ad, cw, ew⟩ := Kd.R_slice1 L3.out HL0.out; subst ew; clear hw hb C2 D2 B2))
  have M4 := Aside0.mk (show mapI.Is (wC.alloc (.map #[] 0)) wC.heap.size [] from MapKit.Is.made wC)
  have HG := Aside0.mk (show w.heap.size ≤ wC.heap.size from B3.out.size)
  have C4 := Aside0.mk (Kd.qG C3.out (.map #[] 0))
  have D4 := Aside0.mk (Kd.qG D3.out (.map #[] 0))
  have L4 := Aside0.mk (Kd.qG L3.out (.map #[] 0))
  have B4 := Aside0.mk (qMA B3.out (.map #[] 0))
  clear C3 D3 L3 B3 hmm
  generalize hgg : wC.heap.size = g at M4 HG ⊢
  clear hgg
  generalize wC.alloc (.map #[] 0) = wD at M4 C4 D4 L4 B4 ⊢
  go_loopg [5, 6, 19] L.length (fun gg v5 v6 v19 wq => ∃ (vc vd : Value) (s : Sx) (y : Nat), vc = v5 ∧ vd = v6 ∧ v19 = .int .i64 y ∧ L.length - y ≤ gg ∧ y ≤ L.length ∧ Aside0 (sixRows r0.size y (L.drop y) s = T) ∧ Aside0 (SixOk s) ∧ Aside0 (Kd.R k75 75 wq w.heap.size (fun _ => True) vc s.cs) ∧ Aside0 (Kd.R (Kd.int .i64) 3 wq w.heap.size (fun _ => True) vd s.ds) ∧ Aside0 (Kd.R Kd.string 9 wq w.heap.size (fun _ => True) (.slice (some ad) L.length cw) L) ∧ Aside0 (mapI.Is wq g s.ms) ∧ Aside0 (Below w.heap.size w wq))
  case atStart => exact ⟨_, _, ⟨[], [], []⟩, 0, rfl, rfl, rfl, by omega, by omega, HT, ⟨SixOk.start⟩, C4, D4, L4, M4, B4⟩
  case round =>
    clear C4 D4 L4 M4 B4 HT
    obtain ⟨vc, vd, s, y, rfl, rfl, rfl, hgk, hy, HT, HK, C0, D0, LR, M0, B⟩ := hrel
    rename World => wr
    by_cases hlt : y < L.length
    · have hltz : (y : Int) < (L.length : Int) := by omega
      obtain ⟨_, _, hC⟩ := Kd.qQ LR.out
      obtain ⟨ady, ey, hcell⟩ := Kd.qWB hC (y : Int) (by omega) (by omega)
      obtain rfl : ad = ady := by injection ey
      obtain ⟨ad0, e0, hcell0⟩ := Kd.qWB hC (0 : Int) (by omega) (by omega)
      obtain rfl : ad = ad0 := by injection e0
      rw [HR0.out] at hcell0
      obtain ⟨row, hrow⟩ : ∃ row, L[y] = row := ⟨_, rfl⟩
      rw [six_getW L y hlt, hrow, Int.toNat_natCast] at hcell
      have hmem : row ∈ L := hrow ▸ List.getElem_mem hlt
      have hT := HT.out
      rw [List.drop_eq_getElem_cons hlt, hrow, sixRows] at hT
      have hrz := HRS.out row hmem
      have HRZ := Aside0.mk hrz
      have htr : qlA.f row ⟨#[46]⟩ = some ⟨(Lib.trimS row.data.toList [46]).toArray⟩ := if_pos ⟨by omega, by decide, by decide⟩
      have hdot := six_trim row _ htr
      generalize (⟨(Lib.trimS row.data.toList [46]).toArray⟩ : ByteArray) = u at htr hdot
      have HTR := Aside0.mk htr
      have HDT := Aside0.mk hdot
      clear hC hrow htr hdot HT hmem ey e0
      have hcell1 : wr.cell? ad = some (.string r0) := hcell0
      by_cases hz : row.size = r0.size
      · have hzi : (row.size : Int) = (r0.size : Int) := by omega
        rw [if_pos hz] at hT
        have HT1 := Aside0.mk hT
        clear hT
        by_cases hu0 : u = ⟨#[]⟩
        · subst hu0
          have HTN := Aside0.mk (show none = T by have := HT1.out; rwa [if_pos (HDT.out.1 rfl)] at this)
          have HFN := HF.out
          rw [← HTN.out] at HFN
          simp only [sixFin, Option.some.injEq, Prod.mk.injEq] at HFN
          obtain ⟨rfl, rfl, rfl⟩ := HFN
          go_wp2_with (first
            | (go_at_call 34; refine (qlA.calls row ⟨#[46]⟩ ⟨#[]⟩ _ HTR.out).mono ?_; rintro e w2 ⟨rfl, hb⟩; have B1 := Aside0.mk (qSA B.out B.out.size hb); clear hb))
          go_ret3
          exact ⟨_, _, rfl, Kd.R_nil k75 75 _ _ _, Kd.R_nil (Kd.int .i64) 3 _ _ _, B1.out⟩
        · have HTS := Aside0.mk (show (sixRow y 0 row.data.toList s).bind (sixRows r0.size (y + 1) (L.drop (y + 1))) = T by have := HT1.out; rwa [if_neg (fun h => hu0 (HDT.out.2 h))] at this)
          clear HT1 HDT
          have hue : u.toList.isEmpty = false := by
            rw [Bool.eq_false_iff]
            intro h
            apply hu0
            rw [Lib.toList_data, List.isEmpty_iff] at h
            obtain ⟨⟨l⟩⟩ := u
            obtain rfl : l = [] := h
            rfl
          go_wp2_with (first
            | (go_at_call 34; refine (qlA.calls row ⟨#[46]⟩ u _ HTR.out).mono ?_; rintro e w2 ⟨rfl, hb⟩; have B1 := Aside0.mk (qSA B.out B.out.size hb); have C1 := Aside0.mk (Kd.qW C0.out hb); have D1 := Aside0.mk (Kd.qW D0.out hb); have L1 := Aside0.mk (Kd.qW LR.out hb); have M1 := Aside0.mk (M0.out.below hb); clear hb B C0 D0 LR M0 hcell hcell0 hcell1))
          go_loopg [5, 6, 38] row.size (fun gg v5 v6 v38 wq => ∃ (vc vd : Value) (s : Sx) (x : Nat), vc = v5 ∧ vd = v6 ∧ v38 = .int .i64 x ∧ row.size - x ≤ gg ∧ x ≤ row.size ∧ Aside0 ((sixRow y x (row.data.toList.drop x) s).bind (sixRows r0.size (y + 1) (L.drop (y + 1))) = T) ∧ Aside0 (SixOk s) ∧ Aside0 (Kd.R k75 75 wq w.heap.size (fun _ => True) vc s.cs) ∧ Aside0 (Kd.R (Kd.int .i64) 3 wq w.heap.size (fun _ => True) vd s.ds) ∧ Aside0 (Kd.R Kd.string 9 wq w.heap.size (fun _ => True) (.slice (some ad) L.length cw) L) ∧ Aside0 (mapI.Is wq g s.ms) ∧ Aside0 (Below w.heap.size w wq))
          case atStart => exact ⟨_, _, s, 0, rfl, rfl, rfl, by omega, by omega, HTS, HK, C1, D1, L1, M1, B1⟩
          case round =>
            clear C1 D1 L1 M1 B1 HTS HK
            obtain ⟨vc, vd, s, x, rfl, rfl, rfl, hgx, hx, HT, HK, C0, D0, LR, M0, B⟩ := hrel
            rename World => wq
            have hdl : row.data.toList.length = row.size := by rw [Array.length_toList]; rfl
            by_cases hxl : x < row.size
            · have hxz : (x : Int) < (row.size : Int) := by omega
              have hx0 : (0 : Int) ≤ (x : Int) := by omega
              have hxt : x < row.data.toList.length := by omega
              obtain ⟨c, hc⟩ : ∃ c, row.data.toList[x] = c := ⟨_, rfl⟩
              have hT := HT.out
              rw [List.drop_eq_getElem_cons hxt, hc, sixRow, sixByte] at hT
              have hbt := six_bt row x hxt
              rw [hc] at hbt
              have hix : ∀ h : x < row.size, ((row[x]'h).toNat : Int) = (c.toNat : Int) := fun h => by have := bt_at row (x : Int) (by simpa using h); rw [hbt] at this; simpa using this
              have hc256 : c.toNat < 256 := c.toNat_lt
              have HBT := Aside0.mk hbt
              clear HT hbt hc hdl hxt
              have p0 := eq_true hx0
              have q0 := eq_true hxz
              obtain ⟨n, hn⟩ : ∃ n : Int, (c.toNat : Int) = n := ⟨_, rfl⟩
              simp only [hn] at hix
              by_cases h46 : c = 46
              · have hn46 : n = 46 := by rw [← hn, h46]; rfl
                rw [if_pos h46] at hT
                have HT := Aside0.mk hT
                clear hT
                subst hn46
                clear hn
                go_wp2
                go_roundg (row.size - (x + 1))
                case measure => omega
                case rel => exact ⟨_, _, s, x + 1, rfl, rfl, by push_cast; rfl, by omega, by omega, HT, HK, C0, D0, LR, M0, B⟩
              · have hn46 : ¬ n = 46 := fun e => h46 (by rw [← hn] at e; have : c.toNat = 46 := by omega
                                                         have := congrArg UInt8.ofNat this; simpa using this)
                rw [if_neg h46] at hT
                have HT := Aside0.mk hT
                clear hT
                have hdg := dg_eq c
                rw [hn] at hdg
                obtain ⟨dg, hdgv⟩ : ∃ dg, isDg c = dg := ⟨_, rfl⟩
                rw [hdgv] at hdg
                have HDG := Aside0.mk hdg
                have HDV := Aside0.mk hdgv
                have HN := Aside0.mk hn
                clear hdg hdgv hn
                cases dg with
                | false =>
                  have HTN := Aside0.mk (show none = T by have := HT.out; rwa [HDV.out, if_neg (by decide), Option.bind_none, Option.bind_none] at this)
                  have HFN := HF.out
                  rw [← HTN.out] at HFN
                  simp only [sixFin, Option.some.injEq, Prod.mk.injEq] at HFN
                  obtain ⟨rfl, rfl, rfl⟩ := HFN
                  go_wp2_with (first
                    | ((with_reducible refine qb (f := 35) rfl ?_); refine qRA (some 48) rfl rfl Tryz.func35 (by kernel_rfl) rfl #[.int .u8 n] rfl (by (try simp only [List.map_toArray, List.map_cons, List.map_nil]); first | done | rfl | simp) ?_; refine (qqA.calls n false _ HDG.out).mono ?_; rintro e w2 ⟨rfl, hb0⟩; refine ⟨_, rfl, ?_⟩; have hb := hb0.below; clear hb0; have B1 := Aside0.mk (qSA B.out B.out.size hb); clear hb))
                  go_ret3
                  exact ⟨_, _, rfl, Kd.R_nil k75 75 _ _ _, Kd.R_nil (Kd.int .i64) 3 _ _ _, B1.out⟩
                | true =>
                  have HT1 := Aside0.mk (show ((if s.cs.length = 6 then (none : Option Sx) else some ⟨s.cs ++ [⟨(x : Int), (y : Int)⟩], s.ds ++ [((c.toNat : Int) - 48)], ((x : Int), true) :: s.ms⟩).bind (sixRow y (x + 1) (row.data.toList.drop (x + 1)))).bind (sixRows r0.size (y + 1) (L.drop (y + 1))) = T by have := HT.out; rwa [HDV.out, if_pos rfl] at this)
                  clear HT
                  obtain ⟨Ac, cc, eac⟩ := Kd.qp C0.out
                  subst eac
                  by_cases h6 : s.cs.length = 6
                  · have h6i : (s.cs.length : Int) = 6 := by omega
                    have HTN := Aside0.mk (show none = T by have := HT1.out; rwa [if_pos h6, Option.bind_none, Option.bind_none] at this)
                    have HFN := HF.out
                    rw [← HTN.out] at HFN
                    simp only [sixFin, Option.some.injEq, Prod.mk.injEq] at HFN
                    obtain ⟨rfl, rfl, rfl⟩ := HFN
                    clear HT1
                    go_wp2_with (first
                      | ((with_reducible refine qb (f := 35) rfl ?_); refine qRA (some 48) rfl rfl Tryz.func35 (by kernel_rfl) rfl #[.int .u8 n] rfl (by (try simp only [List.map_toArray, List.map_cons, List.map_nil]); first | done | rfl | simp) ?_; refine (qqA.calls n true _ HDG.out).mono ?_; rintro e w2 ⟨rfl, hb0⟩; refine ⟨_, rfl, ?_⟩; have hb := hb0.below; clear hb0; have B1 := Aside0.mk (qSA B.out B.out.size hb); clear hb))
                    go_ret3
                    exact ⟨_, _, rfl, Kd.R_nil k75 75 _ _ _, Kd.R_nil (Kd.int .i64) 3 _ _ _, B1.out⟩
                  · have h6i : ¬ (s.cs.length : Int) = 6 := by omega
                    have HT2 := Aside0.mk (show (sixRow y (x + 1) (row.data.toList.drop (x + 1)) ⟨s.cs ++ [⟨(x : Int), (y : Int)⟩], s.ds ++ [((c.toNat : Int) - 48)], ((x : Int), true) :: s.ms⟩).bind (sixRows r0.size (y + 1) (L.drop (y + 1))) = T by have := HT1.out; rwa [if_neg h6] at this)
                    clear HT1
                    go_wp2_with (first
                      | ((with_reducible refine qb (f := 35) rfl ?_); refine qRA (some 48) rfl rfl Tryz.func35 (by kernel_rfl) rfl #[.int .u8 n] rfl (by (try simp only [List.map_toArray, List.map_cons, List.map_nil]); first | done | rfl | simp) ?_; refine (qqA.calls n true _ HDG.out).mono ?_; rintro e w2 ⟨rfl, hb0⟩; refine ⟨_, rfl, ?_⟩; have hb := hb0.below; clear hb0; have n0_ := Aside0.mk (qSA B.out B.out.size hb); have n1_ := Aside0.mk (Kd.qW C0.out hb); have n2_ := Aside0.mk (Kd.qW D0.out hb); have n3_ := Aside0.mk (Kd.qW LR.out hb); have n4_ := Aside0.mk (M0.out.below hb); clear hb B C0 D0 LR M0; have B := n0_; have C0 := n1_; have D0 := n2_; have LR := n3_; have M0 := n4_; clear n0_ n1_ n2_ n3_ n4_))
                    generalize hvc : (Value.slice Ac s.cs.length cc) = vc at C0 ⊢
                    clear hvc
                    have hrange : 48 ≤ n ∧ n ≤ 57 := by
                      have h1 := HDV.out
                      have h2 := HN.out
                      unfold isDg at h1
                      simp only [Bool.and_eq_true, decide_eq_true_eq] at h1
                      omega
                    have hw8 : IntKind.u8.wrap (n - 48) = n - 48 := by show (n - 48) % 256 = n - 48; omega
                    have hw64 : IntKind.i64.wrap (n - 48) = n - 48 := by rw [IntKind.wrap_i64]; omega
                    have HOK := Aside0.mk (show s.cs.length < 6 by have := HK.out.cs; omega)
                    have HOK2 := Aside0.mk (show s.ds.length < 6 by have := HK.out.cs; have := HK.out.ds; omega)
                    have HML := Aside0.mk (show s.ms.length < maxLen by have := HK.out.cs; have := HK.out.ms; unfold maxLen; omega)
                    have HXW := Aside0.mk (show (Lit.int .i64 (x : Int)).wf = true by have := HRZ.out; unfold Lit.wf; simp only [Bool.and_eq_true, decide_eq_true_eq]; exact ⟨by show (-9223372036854775808 : Int) ≤ _; omega, by show _ ≤ (9223372036854775807 : Int); omega⟩)
                    clear hrange h6i
                    refine qxA (n := 19) (S := fun w' => True) (ds := []) #[false, false, false, false, false, false, false, false, false, false, false, false, false, false, false, false, false, false, false] (by kernel_rfl) rfl rfl trivial (fun hHeld => ?_); refine qNA sixTab14 sixBits14 (fun HT_ HW_ => ?_)
                    refine pure_ (i := 0) (N := some 55) (v := ?_) (a' := ?_) #[true, false, false, false, false, false, false, false, false, false, false, false, false, false, false, false, false, false, false] rfl rfl (qKA HT_.out (by kernel_rfl)) (fun _ _ _ h => h) (Or.inl ⟨by rfl, ?_⟩) ?_ ?_
                    rotate_left
                    · intro w'
                      go_simp
                      with_reducible rfl
                    rotate_left
                    · simp only [Act.put, List.setIfInBounds_toArray, List.set_cons_zero, List.set_cons_succ, i64_w, i32_w]
                      rfl
                    refine pure_ (i := 1) (N := some 56) (v := ?_) (a' := ?_) #[true, true, false, false, false, false, false, false, false, false, false, false, false, false, false, false, false, false, false] rfl rfl (qKA HT_.out (by kernel_rfl)) (fun _ _ _ h => h) (Or.inl ⟨by rfl, ?_⟩) ?_ ?_
                    rotate_left
                    · intro w'
                      go_simp
                      with_reducible rfl
                    rotate_left
                    · simp only [Act.put, List.setIfInBounds_toArray, List.set_cons_zero, List.set_cons_succ, i64_w, i32_w]
                      rfl
                    refine pure_ (i := 2) (N := some 57) (v := ?_) (a' := ?_) #[true, true, true, false, false, false, false, false, false, false, false, false, false, false, false, false, false, false, false] rfl rfl (qKA HT_.out (by kernel_rfl)) (fun _ _ _ h => h) (Or.inl ⟨by rfl, ?_⟩) ?_ ?_
                    rotate_left
                    · intro w'
                      go_simp
                      with_reducible rfl
                    rotate_left
                    · simp only [Act.put, List.setIfInBounds_toArray, List.set_cons_zero, List.set_cons_succ, i64_w, i32_w]
                      rfl
                    refine pure_ (i := 3) (N := some 58) (v := ?_) (a' := ?_) #[true, true, true, true, false, false, false, false, false, false, false, false, false, false, false, false, false, false, false] rfl rfl (qKA HT_.out (by kernel_rfl)) (fun _ _ _ h => h) (Or.inl ⟨by rfl, ?_⟩) ?_ ?_
                    rotate_left
                    · intro w'
                      go_simp
                      with_reducible rfl
                    rotate_left
                    · simp only [Act.put, List.setIfInBounds_toArray, List.set_cons_zero, List.set_cons_succ, i64_w, i32_w]
                      rfl
                    refine pure_ (i := 4) (N := some 59) (v := ?_) (a' := ?_) #[true, true, true, true, true, false, false, false, false, false, false, false, false, false, false, false, false, false, false] rfl rfl (qKA HT_.out (by kernel_rfl)) (fun _ _ _ h => h) (Or.inl ⟨by rfl, ?_⟩) ?_ ?_
                    rotate_left
                    · intro w'
                      go_simp
                      with_reducible rfl
                    rotate_left
                    · simp only [Act.put, List.setIfInBounds_toArray, List.set_cons_zero, List.set_cons_succ, i64_w, i32_w]
                      rfl
                    refine pure_ (i := 5) (N := some 60) (v := ?_) (a' := ?_) #[true, true, true, true, true, true, false, false, false, false, false, false, false, false, false, false, false, false, false] rfl rfl (qKA HT_.out (by kernel_rfl)) (fun _ _ _ h => h) (Or.inl ⟨by rfl, ?_⟩) ?_ ?_
                    rotate_left
                    · intro w'
                      go_simp
                      with_reducible rfl
                    rotate_left
                    · simp only [Act.put, List.setIfInBounds_toArray, List.set_cons_zero, List.set_cons_succ, i64_w, i32_w]
                      rfl
                    refine pure_ (i := 8) (N := some 63) (v := ?_) (a' := ?_) #[true, true, true, true, true, true, false, false, true, false, false, false, false, false, false, false, false, false, false] rfl rfl (qKA HT_.out (by kernel_rfl)) (fun _ _ _ h => h) (Or.inl ⟨by rfl, ?_⟩) ?_ ?_
                    rotate_left
                    · intro w'
                      go_simp
                      with_reducible rfl
                    rotate_left
                    · simp only [Act.put, List.setIfInBounds_toArray, List.set_cons_zero, List.set_cons_succ, i64_w, i32_w]
                      rfl
                    refine pure_ (i := 9) (N := some 64) (v := ?_) (a' := ?_) #[true, true, true, true, true, true, false, false, true, true, false, false, false, false, false, false, false, false, false] rfl rfl (qKA HT_.out (by kernel_rfl)) (fun _ _ _ h => h) (Or.inl ⟨by rfl, ?_⟩) ?_ ?_
                    rotate_left
                    · intro w'
                      go_simp
                      with_reducible rfl
                    rotate_left
                    · simp only [Act.put, List.setIfInBounds_toArray, List.set_cons_zero, List.set_cons_succ, i64_w, i32_w]
                      rfl
                    refine pure_ (i := 10) (N := some 65) (v := ?_) (a' := ?_) #[true, true, true, true, true, true, false, false, true, true, true, false, false, false, false, false, false, false, false] rfl rfl (qKA HT_.out (by kernel_rfl)) (fun _ _ _ h => h) (Or.inl ⟨by rfl, ?_⟩) ?_ ?_
                    rotate_left
                    · intro w'
                      go_simp
                      with_reducible rfl
                    rotate_left
                    · simp only [Act.put, List.setIfInBounds_toArray, List.set_cons_zero, List.set_cons_succ, i64_w, i32_w]
                      rfl
                    refine pure_ (i := 11) (N := some 66) (v := ?_) (a' := ?_) #[true, true, true, true, true, true, false, false, true, true, true, true, false, false, false, false, false, false, false] rfl rfl (qKA HT_.out (by kernel_rfl)) (fun _ _ _ h => h) (Or.inl ⟨by rfl, ?_⟩) ?_ ?_
                    rotate_left
                    · intro w'
                      go_simp
                      with_reducible rfl
                    rotate_left
                    · simp only [Act.put, List.setIfInBounds_toArray, List.set_cons_zero, List.set_cons_succ, i64_w, i32_w]
                      rfl
                    refine pure_ (i := 12) (N := some 67) (v := ?_) (a' := ?_) #[true, true, true, true, true, true, false, false, true, true, true, true, true, false, false, false, false, false, false] rfl rfl (qKA HT_.out (by kernel_rfl)) (fun _ _ _ h => h) (Or.inl ⟨by rfl, ?_⟩) ?_ ?_
                    rotate_left
                    · intro w'
                      go_simp
                      with_reducible rfl
                    rotate_left
                    · simp only [Act.put, List.setIfInBounds_toArray, List.set_cons_zero, List.set_cons_succ, i64_w, i32_w]
                      rfl
                    refine pure_ (i := 13) (N := some 68) (v := ?_) (a' := ?_) #[true, true, true, true, true, true, false, false, true, true, true, true, true, true, false, false, false, false, false] rfl rfl (qKA HT_.out (by kernel_rfl)) (fun _ _ _ h => h) (Or.inl ⟨by rfl, ?_⟩) ?_ ?_
                    rotate_left
                    · intro w'
                      go_simp
                      with_reducible rfl
                    rotate_left
                    · simp only [Act.put, List.setIfInBounds_toArray, List.set_cons_zero, List.set_cons_succ, i64_w, i32_w]
                      rfl
                    refine qmC [6, 7, 14, 15, 16, 17, 18] (fun a0_ b a w' => ∃ (s61 : Value) (s62 : Value) (s69 : Value) (s70 : Value) (m16_ : Value) (m17_ : Value), a = putSel a0_ b [(6, 61, s61), (7, 62, s62), (14, 69, s69), (15, 70, s70), (16, 5, m16_), (17, 6, m17_)] ∧ (Below w.heap.size w w') ∧ (Kd.R Kd.string 9 w' w.heap.size (fun _ => True) (.slice (some ad) L.length cw) L) ∧ (b 7 = false → Kd.R k75 75 w' w.heap.size (fun _ => True) vc s.cs) ∧ (b 6 = true → b 7 = false → Kd.R k75 75 w' w.heap.size (fun k_ => some k_ ≠ (vc : Value).ownBlock) s61 [(⟨(x : Int), (y : Int)⟩ : CC)]) ∧ (b 7 = true → Kd.R k75 75 w' w.heap.size (fun _ => True) s62 (s.cs ++ [(⟨(x : Int), (y : Int)⟩ : CC)])) ∧ (b 15 = false → Kd.R (Kd.int .i64) 3 w' w.heap.size (fun _ => True) vd s.ds) ∧ (b 14 = true → b 15 = false → Kd.R (Kd.int .i64) 3 w' w.heap.size (fun k_ => some k_ ≠ (vd : Value).ownBlock) s69 [(n - 48)]) ∧ (b 15 = true → Kd.R (Kd.int .i64) 3 w' w.heap.size (fun _ => True) s70 (s.ds ++ [(n - 48)])) ∧ (b 18 = false → mapI.Is w' g s.ms) ∧ (b 18 = true → mapI.Is w' g (((x : Int), true) :: s.ms)) ∧ (b 16 = true → (m16_ : Value) = s62) ∧ (b 17 = true → (m17_ : Value) = s70)) HT_.out HW_.out (by kernel_rfl) (by kernel_rfl) ?_ ?_ ?_
                    · exact ⟨.bool false, .bool false, .bool false, .bool false, .bool false, .bool false, by simp only [putSel, Bool.false_eq_true, if_false], qh B.out, Kd.qI LR.out, fun _ => Kd.qI C0.out, fun h_ => absurd h_ (by decide), fun h_ => absurd h_ (by decide), fun _ => Kd.qI D0.out, fun h_ => absurd h_ (by decide), fun h_ => absurd h_ (by decide), fun _ => M0.out.drew, fun h_ => absurd h_ (by decide), fun h_ => absurd h_ (by decide), fun h_ => absurd h_ (by decide)⟩
                    · skip
                      clear B C0 D0 LR M0
                      refine qm ?_ ?_
                      · rintro b a w' ⟨s61, s62, s69, s70, m16_, m17_, ha, Q_B, Q_LR, Q_C0, Q_LC, Q_C1, Q_D0, Q_LD, Q_D1, Q_M0, Q_M1, Q_X16_, Q_X17_⟩ hb_ hon hoff
                        refine ⟨_, rfl, fun K hK => ?_⟩
                        have e60 : a.tmps[60]? = some (.agg #[.int .i64 (x : Int), .int .i64 (y : Int)]) := by rw [ha]; exact (qq rfl).trans rfl
                        replace ha := Aside0.mk ha
                        have B := Aside0.mk Q_B
                        have LR := Aside0.mk Q_LR
                        have C0 := Aside0.mk (Q_C0 (hoff 7 (by kernel_rfl)))
                        have D0 := Aside0.mk (Q_D0 (hoff 15 (by kernel_rfl)))
                        have M0 := Aside0.mk (Q_M0 (hoff 18 (by kernel_rfl)))
                        refine Kd.qNC k75 (w0 := w) w.heap.size 75 (by rfl) (N := 61) rfl (xs := ([(⟨(x : Int), (y : Int)⟩ : CC)] : List _)) (inner := [.int .i64 (x : Int), .int .i64 (y : Int)]) (ok := fun k_ => some k_ ≠ (vc : Value).ownBlock) (okp := fun _ => False) ?hr61 ?hp61 (fun _ hk => hk.elim) (Kd.fresh' (Kd.R_lt C0.out) _ (Nat.le_refl _)) B.out B.out.size (by simp) ?_
                        case hr61 => first | (go_simp; done) | (go_simp; rfl)
                        case hp61 => exact Reps.c2 (show Kd.M k75 _ _ _ (⟨(x : Int), (y : Int)⟩ : CC) [.int .i64 (x : Int), .int .i64 (y : Int)] from k75_mkM _ _ _ _) (Reps.none _ _)
                        intro v_ w1_ hR_ hB_ hg_ _
                        refine hK.out _ _ ⟨v_, s62, s69, s70, m16_, m17_, (by rw [ha.out]; exact qo 0 hb_ rfl rfl rfl), hB_, qoB LR.out hg_, fun _ => qoB C0.out hg_, fun _ _ => hR_, fun h0_ => absurd ((hoff 7 (by kernel_rfl)).symm.trans h0_) (by decide), fun _ => qoB D0.out hg_, fun h0_ h1_ => qoB (Q_LD h0_ h1_) hg_, fun h0_ => absurd ((hoff 15 (by kernel_rfl)).symm.trans h0_) (by decide), fun _ => M0.out.qdB (hg_.block g M0.out.lt (by simp)), fun h0_ => absurd ((hoff 18 (by kernel_rfl)).symm.trans h0_) (by decide), fun h0_ => absurd ((hoff 16 (by kernel_rfl)).symm.trans h0_) (by decide), fun h0_ => absurd ((hoff 17 (by kernel_rfl)).symm.trans h0_) (by decide)⟩
                      refine qm ?_ ?_
                      · rintro b a w' ⟨s61, s62, s69, s70, m16_, m17_, ha, Q_B, Q_LR, Q_C0, Q_LC, Q_C1, Q_D0, Q_LD, Q_D1, Q_M0, Q_M1, Q_X16_, Q_X17_⟩ hb_ hon hoff
                        refine ⟨_, rfl, fun K hK => ?_⟩
                        have e57 : a.tmps[57]? = some (vc) := by rw [ha]; exact (qq rfl).trans rfl
                        have e61 : a.tmps[61]? = some (s61) := by rw [ha]; exact qx (e := (6, 61, s61)) 0 rfl rfl (hon 6 (by kernel_rfl)) rfl
                        replace ha := Aside0.mk ha
                        have B := Aside0.mk Q_B
                        have LR := Aside0.mk Q_LR
                        have C0 := Aside0.mk (Q_C0 hb_)
                        have LC := Aside0.mk (Q_LC (hon 6 (by kernel_rfl)) hb_)
                        have D0 := Aside0.mk (Q_D0 (hoff 15 (by kernel_rfl)))
                        have M0 := Aside0.mk (Q_M0 (hoff 18 (by kernel_rfl)))
                        obtain ⟨A_, c_, hs_⟩ := Kd.qp LC.out
                        have LX_ := LC.out
                        rw [hs_] at LX_
                        have HRd_ := (Kd.qQ LX_).2.2
                        have hbd_ := HOK.out
                        refine Kd.R_append_rows_step k75 (w0 := w) w.heap.size (by rfl) (.tmp 57) (.tmp 61) 42 75 (.agg #[(.int .i64 0), (.int .i64 0)]) 16 rfl Tryz.underlying42 infoCC rfl (by decide) (by omega) vc s.cs [(⟨(x : Int), (y : Int)⟩ : CC)] A_ _ c_ (fun _ => True) (fun _ => False) (qvB e57) ((qvB e61).trans hs_) C0.out HRd_ (fun x_ cs_ hk_ => by obtain rfl := k75_open hk_; exact k75_mkM _ _ _ x_) (fun _ hk => hk.elim) (fun _ _ => trivial) B.out B.out.size (by simp only [List.length_cons, List.length_nil]; omega) ?_
                        intro v_ w1_ hR_ hB_ hg_ _
                        refine hK.out _ _ ⟨s61, v_, s69, s70, m16_, m17_, (by rw [ha.out]; exact qo 1 hb_ rfl rfl rfl), hB_, Kd.qnA LR.out (Kd.qEA C0.out) (by decide) hg_, fun h0_ => absurd ((qaB b 7).symm.trans h0_) (by decide), fun _ h1_ => absurd ((qaB b 7).symm.trans h1_) (by decide), fun _ => hR_, fun _ => Kd.qnA D0.out (Kd.qEA C0.out) (by decide) hg_, fun h0_ h1_ => Kd.qnA (Q_LD h0_ h1_) (Kd.qEA C0.out) (by decide) hg_, fun h0_ => absurd ((hoff 15 (by kernel_rfl)).symm.trans h0_) (by decide), fun _ => M0.out.qdB (hg_.block g M0.out.lt (M0.out.ne C0.out)), fun h0_ => absurd ((hoff 18 (by kernel_rfl)).symm.trans h0_) (by decide), fun h0_ => absurd ((hoff 16 (by kernel_rfl)).symm.trans h0_) (by decide), fun h0_ => absurd ((hoff 17 (by kernel_rfl)).symm.trans h0_) (by decide)⟩
                      refine qm ?_ ?_
                      · rintro b a w' ⟨s61, s62, s69, s70, m16_, m17_, ha, Q_B, Q_LR, Q_C0, Q_LC, Q_C1, Q_D0, Q_LD, Q_D1, Q_M0, Q_M1, Q_X16_, Q_X17_⟩ hb_ hon hoff
                        refine ⟨_, rfl, fun K hK => ?_⟩
                        have e68 : a.tmps[68]? = some (.int .i64 (n - 48)) := by rw [ha]; exact (qq rfl).trans rfl
                        replace ha := Aside0.mk ha
                        have B := Aside0.mk Q_B
                        have LR := Aside0.mk Q_LR
                        have D0 := Aside0.mk (Q_D0 (hoff 15 (by kernel_rfl)))
                        have M0 := Aside0.mk (Q_M0 (hoff 18 (by kernel_rfl)))
                        refine Kd.qNC (Kd.int .i64) (w0 := w) w.heap.size 3 (by rfl) (N := 69) rfl (xs := ([(n - 48)] : List _)) (inner := [.int .i64 (n - 48)]) (ok := fun k_ => some k_ ≠ (vd : Value).ownBlock) (okp := fun _ => False) ?hr69 ?hp69 (fun _ hk => hk.elim) (Kd.fresh' (Kd.R_lt D0.out) _ (Nat.le_refl _)) B.out B.out.size (by simp) ?_
                        case hr69 => first | (go_simp; done) | (go_simp; rfl)
                        case hp69 => exact Reps.one (show Kd.M (Kd.int .i64) _ _ _ (n - 48) [.int .i64 (n - 48)] from rfl) (Reps.none _ _)
                        intro v_ w1_ hR_ hB_ hg_ _
                        refine hK.out _ _ ⟨s61, s62, v_, s70, m16_, m17_, (by rw [ha.out]; exact qo 2 hb_ rfl rfl rfl), hB_, qoB LR.out hg_, fun h0_ => qoB (Q_C0 h0_) hg_, fun h0_ h1_ => qoB (Q_LC h0_ h1_) hg_, fun h0_ => qoB (Q_C1 h0_) hg_, fun _ => qoB D0.out hg_, fun _ _ => hR_, fun h0_ => absurd ((hoff 15 (by kernel_rfl)).symm.trans h0_) (by decide), fun _ => M0.out.qdB (hg_.block g M0.out.lt (by simp)), fun h0_ => absurd ((hoff 18 (by kernel_rfl)).symm.trans h0_) (by decide), fun h0_ => absurd ((hoff 16 (by kernel_rfl)).symm.trans h0_) (by decide), fun h0_ => absurd ((hoff 17 (by kernel_rfl)).symm.trans h0_) (by decide)⟩
                      refine qm ?_ ?_
                      · rintro b a w' ⟨s61, s62, s69, s70, m16_, m17_, ha, Q_B, Q_LR, Q_C0, Q_LC, Q_C1, Q_D0, Q_LD, Q_D1, Q_M0, Q_M1, Q_X16_, Q_X17_⟩ hb_ hon hoff
                        refine ⟨_, rfl, fun K hK => ?_⟩
                        have e63 : a.tmps[63]? = some (vd) := by rw [ha]; exact (qq rfl).trans rfl
                        have e69 : a.tmps[69]? = some (s69) := by rw [ha]; exact qx (e := (14, 69, s69)) 2 rfl rfl (hon 14 (by kernel_rfl)) rfl
                        replace ha := Aside0.mk ha
                        have B := Aside0.mk Q_B
                        have LR := Aside0.mk Q_LR
                        have C1 := Aside0.mk (Q_C1 (hon 7 (by kernel_rfl)))
                        have D0 := Aside0.mk (Q_D0 hb_)
                        have LD := Aside0.mk (Q_LD (hon 14 (by kernel_rfl)) hb_)
                        have M0 := Aside0.mk (Q_M0 (hoff 18 (by kernel_rfl)))
                        obtain ⟨A_, c_, hs_⟩ := Kd.qp LD.out
                        have LX_ := LD.out
                        rw [hs_] at LX_
                        have HRd_ := (Kd.qQ LX_).2.2
                        have hbd_ := HOK2.out
                        refine Kd.R_append_rows_step (Kd.int .i64) (w0 := w) w.heap.size (by rfl) (.tmp 63) (.tmp 69) 28 3 (.int .i64 0) 8 rfl Tryz.underlying28 info3 rfl (by decide) (by omega) vd s.ds [(n - 48)] A_ _ c_ (fun _ => True) (fun _ => False) (qvB e63) ((qvB e69).trans hs_) D0.out HRd_ (fun _ _ hk_ => hk_) (fun _ hk => hk.elim) (fun _ _ => trivial) B.out B.out.size (by simp only [List.length_cons, List.length_nil]; omega) ?_
                        intro v_ w1_ hR_ hB_ hg_ _
                        refine hK.out _ _ ⟨s61, s62, s69, v_, m16_, m17_, (by rw [ha.out]; exact qo 3 hb_ rfl rfl rfl), hB_, Kd.qnA LR.out (Kd.qEA D0.out) (by decide) hg_, fun h0_ => absurd ((hon 7 (by kernel_rfl)).symm.trans h0_) (by decide), fun _ h1_ => absurd ((hon 7 (by kernel_rfl)).symm.trans h1_) (by decide), fun _ => Kd.qnA C1.out (Kd.qEA D0.out) (by decide) hg_, fun h0_ => absurd ((qaB b 15).symm.trans h0_) (by decide), fun _ h1_ => absurd ((qaB b 15).symm.trans h1_) (by decide), fun _ => hR_, fun _ => M0.out.qdB (hg_.block g M0.out.lt (M0.out.ne D0.out)), fun h0_ => absurd ((hoff 18 (by kernel_rfl)).symm.trans h0_) (by decide), fun h0_ => absurd ((hoff 16 (by kernel_rfl)).symm.trans h0_) (by decide), fun h0_ => absurd ((hoff 17 (by kernel_rfl)).symm.trans h0_) (by decide)⟩
                      refine qm ?_ ?_
                      · rintro b a w' ⟨s61, s62, s69, s70, m16_, m17_, ha, Q_B, Q_LR, Q_C0, Q_LC, Q_C1, Q_D0, Q_LD, Q_D1, Q_M0, Q_M1, Q_X16_, Q_X17_⟩ hb_ hon hoff
                        refine ⟨_, rfl, fun K hK => ?_⟩
                        have e62 : a.tmps[62]? = some (s62) := by rw [ha]; exact qx (e := (7, 62, s62)) 1 rfl rfl (hon 7 (by kernel_rfl)) rfl
                        replace ha := Aside0.mk ha
                        have B := Aside0.mk Q_B
                        have LR := Aside0.mk Q_LR
                        have C1 := Aside0.mk (Q_C1 (hon 7 (by kernel_rfl)))
                        have D1 := Aside0.mk (Q_D1 (hon 15 (by kernel_rfl)))
                        have M0 := Aside0.mk (Q_M0 (hoff 18 (by kernel_rfl)))
                        refine qwA (w1 := w') (v := s62) (by rfl) rfl ?_ ?_
                        · go_simp
                          (try simp only [i64_w])
                          try rfl
                        refine hK.out _ _ ⟨s61, s62, s69, s70, (s62), m17_, (by rw [ha.out]; exact qo 4 hb_ rfl rfl rfl), Q_B, Q_LR, fun h0_ => absurd ((hon 7 (by kernel_rfl)).symm.trans h0_) (by decide), fun _ h1_ => absurd ((hon 7 (by kernel_rfl)).symm.trans h1_) (by decide), Q_C1, fun h0_ => absurd ((hon 15 (by kernel_rfl)).symm.trans h0_) (by decide), fun _ h1_ => absurd ((hon 15 (by kernel_rfl)).symm.trans h1_) (by decide), Q_D1, Q_M0, fun h0_ => absurd ((hoff 18 (by kernel_rfl)).symm.trans h0_) (by decide), fun _ => rfl, fun h0_ => absurd ((hoff 17 (by kernel_rfl)).symm.trans h0_) (by decide)⟩
                      refine qm ?_ ?_
                      · rintro b a w' ⟨s61, s62, s69, s70, m16_, m17_, ha, Q_B, Q_LR, Q_C0, Q_LC, Q_C1, Q_D0, Q_LD, Q_D1, Q_M0, Q_M1, Q_X16_, Q_X17_⟩ hb_ hon hoff
                        refine ⟨_, rfl, fun K hK => ?_⟩
                        have e70 : a.tmps[70]? = some (s70) := by rw [ha]; exact qx (e := (15, 70, s70)) 3 rfl rfl (hon 15 (by kernel_rfl)) rfl
                        replace ha := Aside0.mk ha
                        have B := Aside0.mk Q_B
                        have LR := Aside0.mk Q_LR
                        have C1 := Aside0.mk (Q_C1 (hon 7 (by kernel_rfl)))
                        have D1 := Aside0.mk (Q_D1 (hon 15 (by kernel_rfl)))
                        have M0 := Aside0.mk (Q_M0 (hoff 18 (by kernel_rfl)))
                        refine qwA (w1 := w') (v := s70) (by rfl) rfl ?_ ?_
                        · go_simp
                          (try simp only [i64_w])
                          try rfl
                        refine hK.out _ _ ⟨s61, s62, s69, s70, m16_, (s70), (by rw [ha.out]; exact qo 5 hb_ rfl rfl rfl), Q_B, Q_LR, fun h0_ => absurd ((hon 7 (by kernel_rfl)).symm.trans h0_) (by decide), fun _ h1_ => absurd ((hon 7 (by kernel_rfl)).symm.trans h1_) (by decide), Q_C1, fun h0_ => absurd ((hon 15 (by kernel_rfl)).symm.trans h0_) (by decide), fun _ h1_ => absurd ((hon 15 (by kernel_rfl)).symm.trans h1_) (by decide), Q_D1, Q_M0, fun h0_ => absurd ((hoff 18 (by kernel_rfl)).symm.trans h0_) (by decide), Q_X16_, fun _ => rfl⟩
                      refine qm ?_ ?_
                      · rintro b a w' ⟨s61, s62, s69, s70, m16_, m17_, ha, Q_B, Q_LR, Q_C0, Q_LC, Q_C1, Q_D0, Q_LD, Q_D1, Q_M0, Q_M1, Q_X16_, Q_X17_⟩ hb_ hon hoff
                        refine ⟨_, rfl, fun K hK => ?_⟩
                        have e55 : a.tmps[55]? = some (.map (some g)) := by rw [ha]; exact (qq rfl).trans rfl
                        have e56 : a.tmps[56]? = some (.int .i64 (x : Int)) := by rw [ha]; exact (qq rfl).trans rfl
                        replace ha := Aside0.mk ha
                        have B := Aside0.mk Q_B
                        have LR := Aside0.mk Q_LR
                        have C1 := Aside0.mk (Q_C1 (hon 7 (by kernel_rfl)))
                        have D1 := Aside0.mk (Q_D1 (hon 15 (by kernel_rfl)))
                        have M0 := Aside0.mk (Q_M0 hb_)
                        obtain ⟨w1_, hrun_, hM1_, hgr_⟩ := M0.out.run_put HML.out (x := (x : Int)) HXW.out (v := true) trivial
                        have hrun2_ : (Instr.mapUpdate 72 (.map (some g)) (.int .i64 (x : Int)) (.bool true)).run Tryz.prog w' = .ok () w1_ := hrun_
                        refine skip_ (w1 := w1_) (by rfl) rfl ?hr18 ?_
                        case hr18 =>
                          have a1_ := qvB e55
                          have a2_ := qvB e56
                          unfold execOp
                          simp [a1_, a2_, show a.eval (.const (.bool true)) = .bool true from rfl, hrun2_, Result.andThen]
                        refine hK.out _ _ ⟨s61, s62, s69, s70, m16_, m17_, (by rw [ha.out]; exact putSel_none (v := undef) rfl), B.out.grown hgr_ B.out.size (fun k_ e_ => by cases e_; exact HG.out), M0.out.row LR.out hgr_, fun h0_ => absurd ((hon 7 (by kernel_rfl)).symm.trans h0_) (by decide), fun _ h1_ => absurd ((hon 7 (by kernel_rfl)).symm.trans h1_) (by decide), fun _ => M0.out.row C1.out hgr_, fun h0_ => absurd ((hon 15 (by kernel_rfl)).symm.trans h0_) (by decide), fun _ h1_ => absurd ((hon 15 (by kernel_rfl)).symm.trans h1_) (by decide), fun _ => M0.out.row D1.out hgr_, fun h0_ => absurd ((qaB b 18).symm.trans h0_) (by decide), fun _ => hM1_, Q_X16_, Q_X17_⟩
                      exact qyB
                    · rintro b a w' hall ⟨s61, s62, s69, s70, m16_, m17_, ha, Q_B, Q_LR, Q_C0, Q_LC, Q_C1, Q_D0, Q_LD, Q_D1, Q_M0, Q_M1, Q_X16_, Q_X17_⟩
                      clear B C0 D0 LR M0
                      have hb6_ := hall 6 (by kernel_rfl)
                      have hb7_ := hall 7 (by kernel_rfl)
                      have hb14_ := hall 14 (by kernel_rfl)
                      have hb15_ := hall 15 (by kernel_rfl)
                      have hb16_ := hall 16 (by kernel_rfl)
                      have hb17_ := hall 17 (by kernel_rfl)
                      have hb18_ := hall 18 (by kernel_rfl)
                      subst ha
                      obtain rfl := Q_X16_ hb16_
                      obtain rfl := Q_X17_ hb17_
                      simp only [putSel, hb6_, hb7_, hb14_, hb15_, hb16_, hb17_, hb18_, if_true, Act.put, List.setIfInBounds_toArray, List.set_cons_zero, List.set_cons_succ]
                      have B := Aside0.mk Q_B
                      clear Q_B
                      have LR := Aside0.mk Q_LR
                      clear Q_LR
                      clear Q_C0
                      clear Q_LC
                      have C1 := Aside0.mk (Q_C1 hb7_)
                      clear Q_C1
                      clear Q_D0
                      clear Q_LD
                      have D1 := Aside0.mk (Q_D1 hb15_)
                      clear Q_D1
                      clear Q_M0
                      have M1 := Aside0.mk (Q_M1 hb18_)
                      clear Q_M1
                      clear hall hb6_ hb7_ hb14_ hb15_ hb16_ hb17_ hb18_
                      go_wp2
                      go_roundg (row.size - (x + 1))
                      case measure => omega
                      case rel => exact ⟨_, _, ⟨s.cs ++ [⟨(x : Int), (y : Int)⟩], s.ds ++ [((c.toNat : Int) - 48)], ((x : Int), true) :: s.ms⟩, x + 1, rfl, rfl, by push_cast; rfl, by omega, by omega, HT2, ⟨HK.out.add h6 _ _ _⟩, C1, by rw [HN.out]; exact D1, LR, M1, B⟩
            · have hxz : ¬ (x : Int) < (row.size : Int) := by omega
              have HT2 := Aside0.mk (show sixRows r0.size (y + 1) (L.drop (y + 1)) s = T by have := HT.out; rwa [List.drop_eq_nil_of_le (by omega), sixRow, Option.bind_some] at this)
              clear HT hdl
              go_wp2
              go_roundg (L.length - (y + 1))
              case measure => omega
              case rel => exact ⟨_, _, s, y + 1, rfl, rfl, by (first | (push_cast; rfl) | (have hz_ := HLN.out; show Value.int .i64 (wrap64 ((y : Int) + 1)) = _; rw [show wrap64 ((y : Int) + 1) = ((y + 1 : Nat) : Int) by unfold wrap64; omega])), by omega, by omega, HT2, HK, C0, D0, LR, M0, B⟩
      · have hzi : ¬ (row.size : Int) = (r0.size : Int) := by omega
        rw [if_neg hz] at hT
        have HTN := Aside0.mk hT
        clear hT
        have HFN := HF.out
        rw [← HTN.out] at HFN
        simp only [sixFin, Option.some.injEq, Prod.mk.injEq] at HFN
        obtain ⟨rfl, rfl, rfl⟩ := HFN
        go_wp2
        go_ret3
        exact ⟨_, _, rfl, Kd.R_nil k75 75 _ _ _, Kd.R_nil (Kd.int .i64) 3 _ _ _, B.out⟩
    · have hltz : ¬ (y : Int) < (L.length : Int) := by omega
      have hT := HT.out
      rw [List.drop_eq_nil_of_le (by omega), sixRows] at hT
      have HFN := HF.out
      rw [← hT, sixFin] at HFN
      clear hT HT
      have hLpos : 0 < L.length := HL0.out
      go_wp2
      obtain ⟨Ac, cc, eac⟩ := Kd.qp C0.out
      subst eac
      by_cases h6 : s.cs.length = 6
      · rw [if_pos h6] at HFN
        have h6i : (s.cs.length : Int) = 6 := by omega
        by_cases hq : MapKit.count s.ms = r0.size
        · rw [if_pos hq] at HFN
          have hqi : (MapKit.count s.ms : Int) = (r0.size : Int) := by omega
          obtain ⟨th, hth, hr⟩ := Option.bind_eq_some_iff.mp HFN
          have HH := Aside0.mk hth
          clear HFN hth
          refine qxA (n := 17) (S := fun w' => True) (ds := []) #[false, false, false, false, false, false, false, false, false, false, false, false, false, false, false, false, false] (by kernel_rfl) rfl rfl trivial (fun hHeld => ?_); refine qNA sixTab17 sixBits17 (fun HT_ HW_ => ?_)
          refine pure_ (i := 0) (N := some 73) (v := ?_) (a' := ?_) #[true, false, false, false, false, false, false, false, false, false, false, false, false, false, false, false, false] rfl rfl (qKA HT_.out (by kernel_rfl)) (fun _ _ _ h => h) (Or.inl ⟨by rfl, ?_⟩) ?_ ?_
          rotate_left
          · intro w'
            go_simp
            with_reducible rfl
          rotate_left
          · simp only [Act.put, List.setIfInBounds_toArray, List.set_cons_zero, List.set_cons_succ, i64_w, i32_w]
            rfl
          refine pure_ (i := 1) (N := some 74) (v := ?_) (a' := ?_) #[true, true, false, false, false, false, false, false, false, false, false, false, false, false, false, false, false] rfl rfl (qKA HT_.out (by kernel_rfl)) (fun _ _ _ h => h) (Or.inl ⟨by rfl, ?_⟩) ?_ ?_
          rotate_left
          · intro w'
            go_simp
            with_reducible rfl
          rotate_left
          · simp only [Act.put, List.setIfInBounds_toArray, List.set_cons_zero, List.set_cons_succ, i64_w, i32_w]
            rfl
          refine pure_ (i := 2) (N := some 75) (v := ?_) (a' := ?_) #[true, true, true, false, false, false, false, false, false, false, false, false, false, false, false, false, false] rfl rfl (qKA HT_.out (by kernel_rfl)) (fun _ _ _ h => h) (Or.inl ⟨by rfl, ?_⟩) ?_ ?_
          rotate_left
          · intro w'
            go_simp
            with_reducible rfl
          rotate_left
          · simp only [Act.put, List.setIfInBounds_toArray, List.set_cons_zero, List.set_cons_succ, i64_w, i32_w]
            rfl
          refine pure_ (i := 3) (N := some 76) (v := ?_) (a' := ?_) #[true, true, true, true, false, false, false, false, false, false, false, false, false, false, false, false, false] rfl rfl (qKA HT_.out (by kernel_rfl)) (fun _ _ _ h => h) (Or.inl ⟨by rfl, ?_⟩) ?_ ?_
          rotate_left
          · intro w'
            go_simp
            with_reducible rfl
          rotate_left
          · simp only [Act.put, List.setIfInBounds_toArray, List.set_cons_zero, List.set_cons_succ, i64_w, i32_w]
            rfl
          refine pure_ (i := 4) (N := some 77) (v := ?_) (a' := ?_) #[true, true, true, true, true, false, false, false, false, false, false, false, false, false, false, false, false] rfl rfl (qKA HT_.out (by kernel_rfl)) (fun _ _ _ h => h) (Or.inl ⟨by rfl, ?_⟩) ?_ ?_
          rotate_left
          · intro w'
            go_simp
            with_reducible rfl
          rotate_left
          · simp only [Act.put, List.setIfInBounds_toArray, List.set_cons_zero, List.set_cons_succ, i64_w, i32_w]
            rfl
          refine pure_ (i := 6) (N := some 79) (v := ?_) (a' := ?_) #[true, true, true, true, true, false, true, false, false, false, false, false, false, false, false, false, false] rfl rfl (qKA HT_.out (by kernel_rfl)) (fun _ _ _ h => h) (Or.inl ⟨by rfl, ?_⟩) ?_ ?_
          rotate_left
          · intro w'
            go_simp
            with_reducible rfl
          rotate_left
          · simp only [Act.put, List.setIfInBounds_toArray, List.set_cons_zero, List.set_cons_succ, i64_w, i32_w]
            rfl
          refine pure_ (i := 7) (N := some 80) (v := ?_) (a' := ?_) #[true, true, true, true, true, false, true, true, false, false, false, false, false, false, false, false, false] rfl rfl (qKA HT_.out (by kernel_rfl)) (fun _ _ _ h => h) (Or.inl ⟨by rfl, ?_⟩) ?_ ?_
          rotate_left
          · intro w'
            go_simp
            with_reducible rfl
          rotate_left
          · simp only [Act.put, List.setIfInBounds_toArray, List.set_cons_zero, List.set_cons_succ, i64_w, i32_w]
            rfl
          refine qmC [5, 8, 9, 10, 11, 12, 13, 14, 15, 16] (fun a0_ b a w' => a = putSel a0_ b [(5, 78, .int .i64 (MapKit.count s.ms : Int)), (8, 81, .string r0), (9, 82, .int .i64 (r0.size : Int)), (10, 83, .bool false), (11, 84, .bool false), (12, 85, .bool false), (13, 86, .slice Ac s.cs.length cc), (14, 87, .bool th), (15, 88, .bool (!th)), (16, 89, .bool (!th))] ∧ (Below w.heap.size w w') ∧ (Kd.R Kd.string 9 w' w.heap.size (fun _ => True) (.slice (some ad) L.length cw) L) ∧ (Kd.R k75 75 w' w.heap.size (fun _ => True) (.slice Ac s.cs.length cc) s.cs) ∧ (Kd.R (Kd.int .i64) 3 w' w.heap.size (fun _ => True) vd s.ds) ∧ (mapI.Is w' g s.ms)) HT_.out HW_.out (by kernel_rfl) (by kernel_rfl) ?_ ?_ ?_
          · exact ⟨by simp only [putSel, Bool.false_eq_true, if_false], qh B.out, Kd.qI LR.out, Kd.qI C0.out, Kd.qI D0.out, M0.out.drew⟩
          · skip
            clear B C0 D0 LR M0
            refine qm ?_ ?_
            · rintro b a w' ⟨ha, Q_B, Q_LR, Q_C0, Q_D0, Q_M0⟩ hb_ hon hoff
              refine ⟨_, rfl, fun K hK => ?_⟩
              have e77 : a.tmps[77]? = some (.map (some g)) := by rw [ha]; exact (qq rfl).trans rfl
              have e76 : a.tmps[76]? = some (.bool false) := by rw [ha]; exact (qq rfl).trans rfl
              replace ha := Aside0.mk ha
              have B := Aside0.mk Q_B
              have LR := Aside0.mk Q_LR
              have C0 := Aside0.mk Q_C0
              have D0 := Aside0.mk Q_D0
              have M0 := Aside0.mk Q_M0
              have hrl_ := fun ty_ => (show (Builtin.len_ #[72] ty_ #[.map (some g)]).run Tryz.prog w' = .ok (.int .i64 (MapKit.count s.ms)) w' from M0.out.run_len ty_)
              refine qwA (w1 := w') (v := .int .i64 (MapKit.count s.ms : Int)) (qpA rfl rfl rfl (e76.trans (by first | rfl | (simp [*]; done)))) rfl ?_ ?_
              · go_simp
                (try simp only [i64_w])
                try rfl
              refine hK.out _ _ ⟨(by rw [ha.out]; exact qo 0 hb_ rfl rfl rfl), Q_B, Q_LR, Q_C0, Q_D0, Q_M0⟩
            refine qm ?_ ?_
            · rintro b a w' ⟨ha, Q_B, Q_LR, Q_C0, Q_D0, Q_M0⟩ hb_ hon hoff
              refine ⟨_, rfl, fun K hK => ?_⟩
              have e80 : a.tmps[80]? = some (.pointer (some ad)) := by rw [ha]; exact (qq rfl).trans rfl
              have e76 : a.tmps[76]? = some (.bool false) := by rw [ha]; exact (qq rfl).trans rfl
              replace ha := Aside0.mk ha
              have B := Aside0.mk Q_B
              have LR := Aside0.mk Q_LR
              have C0 := Aside0.mk Q_C0
              have D0 := Aside0.mk Q_D0
              have M0 := Aside0.mk Q_M0
              obtain ⟨ad_, e_, hcell_⟩ := Kd.qWB (Kd.qQ LR.out).2.2 (0 : Int) (Int.le_refl 0) HLP.out
              obtain rfl : ad = ad_ := by injection e_
              rw [HR0.out] at hcell_
              have hcell2_ : w'.cell? ad = some (.string r0) := hcell_
              refine qwA (w1 := w') (v := .string r0) (qpA rfl rfl rfl (e76.trans (by first | rfl | (simp [*]; done)))) rfl ?_ ?_
              · go_simp
                (try simp only [i64_w])
                try rfl
              refine hK.out _ _ ⟨(by rw [ha.out]; exact qo 1 hb_ rfl rfl rfl), Q_B, Q_LR, Q_C0, Q_D0, Q_M0⟩
            refine qm ?_ ?_
            · rintro b a w' ⟨ha, Q_B, Q_LR, Q_C0, Q_D0, Q_M0⟩ hb_ hon hoff
              refine ⟨_, rfl, fun K hK => ?_⟩
              have e81 : a.tmps[81]? = some (.string r0) := by rw [ha]; exact qx (e := (8, 81, .string r0)) 1 rfl rfl (hon 8 (by kernel_rfl)) rfl
              have e76 : a.tmps[76]? = some (.bool false) := by rw [ha]; exact (qq rfl).trans rfl
              replace ha := Aside0.mk ha
              have B := Aside0.mk Q_B
              have LR := Aside0.mk Q_LR
              have C0 := Aside0.mk Q_C0
              have D0 := Aside0.mk Q_D0
              have M0 := Aside0.mk Q_M0
              refine qwA (w1 := w') (v := .int .i64 (r0.size : Int)) (qpA rfl rfl rfl (e76.trans (by first | rfl | (simp [*]; done)))) rfl ?_ ?_
              · go_simp
                (try simp only [i64_w])
                try rfl
              refine hK.out _ _ ⟨(by rw [ha.out]; exact qo 2 hb_ rfl rfl rfl), Q_B, Q_LR, Q_C0, Q_D0, Q_M0⟩
            refine qm ?_ ?_
            · rintro b a w' ⟨ha, Q_B, Q_LR, Q_C0, Q_D0, Q_M0⟩ hb_ hon hoff
              refine ⟨_, rfl, fun K hK => ?_⟩
              have e78 : a.tmps[78]? = some (.int .i64 (MapKit.count s.ms : Int)) := by rw [ha]; exact qx (e := (5, 78, .int .i64 (MapKit.count s.ms : Int))) 0 rfl rfl (hon 5 (by kernel_rfl)) rfl
              have e82 : a.tmps[82]? = some (.int .i64 (r0.size : Int)) := by rw [ha]; exact qx (e := (9, 82, .int .i64 (r0.size : Int))) 2 rfl rfl (hon 9 (by kernel_rfl)) rfl
              have e76 : a.tmps[76]? = some (.bool false) := by rw [ha]; exact (qq rfl).trans rfl
              replace ha := Aside0.mk ha
              have B := Aside0.mk Q_B
              have LR := Aside0.mk Q_LR
              have C0 := Aside0.mk Q_C0
              have D0 := Aside0.mk Q_D0
              have M0 := Aside0.mk Q_M0
              refine qwA (w1 := w') (v := .bool false) (qpA rfl rfl rfl (e76.trans (by first | rfl | (simp [*]; done)))) rfl ?_ ?_
              · go_simp
                (try simp only [i64_w])
                try rfl
              refine hK.out _ _ ⟨(by rw [ha.out]; exact qo 3 hb_ rfl rfl rfl), Q_B, Q_LR, Q_C0, Q_D0, Q_M0⟩
            refine qm ?_ ?_
            · rintro b a w' ⟨ha, Q_B, Q_LR, Q_C0, Q_D0, Q_M0⟩ hb_ hon hoff
              refine ⟨_, rfl, fun K hK => ?_⟩
              have e76 : a.tmps[76]? = some (.bool false) := by rw [ha]; exact (qq rfl).trans rfl
              have e83 : a.tmps[83]? = some (.bool false) := by rw [ha]; exact qx (e := (10, 83, .bool false)) 3 rfl rfl (hon 10 (by kernel_rfl)) rfl
              replace ha := Aside0.mk ha
              have B := Aside0.mk Q_B
              have LR := Aside0.mk Q_LR
              have C0 := Aside0.mk Q_C0
              have D0 := Aside0.mk Q_D0
              have M0 := Aside0.mk Q_M0
              refine qwA (w1 := w') (v := .bool false) (by rfl) rfl ?_ ?_
              · go_simp
                (try simp only [i64_w])
                try rfl
              refine hK.out _ _ ⟨(by rw [ha.out]; exact qo 4 hb_ rfl rfl rfl), Q_B, Q_LR, Q_C0, Q_D0, Q_M0⟩
            refine qm ?_ ?_
            · rintro b a w' ⟨ha, Q_B, Q_LR, Q_C0, Q_D0, Q_M0⟩ hb_ hon hoff
              refine ⟨_, rfl, fun K hK => ?_⟩
              have e84 : a.tmps[84]? = some (.bool false) := by rw [ha]; exact qx (e := (11, 84, .bool false)) 4 rfl rfl (hon 11 (by kernel_rfl)) rfl
              replace ha := Aside0.mk ha
              have B := Aside0.mk Q_B
              have LR := Aside0.mk Q_LR
              have C0 := Aside0.mk Q_C0
              have D0 := Aside0.mk Q_D0
              have M0 := Aside0.mk Q_M0
              refine qwA (w1 := w') (v := .bool false) (by rfl) rfl ?_ ?_
              · go_simp
                (try simp only [i64_w])
                try rfl
              refine hK.out _ _ ⟨(by rw [ha.out]; exact qo 5 hb_ rfl rfl rfl), Q_B, Q_LR, Q_C0, Q_D0, Q_M0⟩
            refine qm ?_ ?_
            · rintro b a w' ⟨ha, Q_B, Q_LR, Q_C0, Q_D0, Q_M0⟩ hb_ hon hoff
              refine ⟨_, rfl, fun K hK => ?_⟩
              have e5 : a.tmps[5]? = some (.slice Ac s.cs.length cc) := by rw [ha]; exact (qq rfl).trans rfl
              have e85 : a.tmps[85]? = some (.bool false) := by rw [ha]; exact qx (e := (12, 85, .bool false)) 5 rfl rfl (hon 12 (by kernel_rfl)) rfl
              replace ha := Aside0.mk ha
              have B := Aside0.mk Q_B
              have LR := Aside0.mk Q_LR
              have C0 := Aside0.mk Q_C0
              have D0 := Aside0.mk Q_D0
              have M0 := Aside0.mk Q_M0
              refine qwA (w1 := w') (v := .slice Ac s.cs.length cc) (qpA rfl rfl rfl (e85.trans (by first | rfl | (simp [*]; done)))) rfl ?_ ?_
              · go_simp
                (try simp only [i64_w])
                try rfl
              refine hK.out _ _ ⟨(by rw [ha.out]; exact qo 6 hb_ rfl rfl rfl), Q_B, Q_LR, Q_C0, Q_D0, Q_M0⟩
            refine qm ?_ ?_
            · rintro b a w' ⟨ha, Q_B, Q_LR, Q_C0, Q_D0, Q_M0⟩ hb_ hon hoff
              refine ⟨_, rfl, fun K hK => ?_⟩
              have e86 : a.tmps[86]? = some (.slice Ac s.cs.length cc) := by rw [ha]; exact qx (e := (13, 86, .slice Ac s.cs.length cc)) 6 rfl rfl (hon 13 (by kernel_rfl)) rfl
              have e85 : a.tmps[85]? = some (.bool false) := by rw [ha]; exact qx (e := (12, 85, .bool false)) 5 rfl rfl (hon 12 (by kernel_rfl)) rfl
              replace ha := Aside0.mk ha
              have B := Aside0.mk Q_B
              have LR := Aside0.mk Q_LR
              have C0 := Aside0.mk Q_C0
              have D0 := Aside0.mk Q_D0
              have M0 := Aside0.mk Q_M0
              refine goes_ Tryz.func36 (by kernel_rfl) rfl #[.slice Ac s.cs.length cc] (qpA rfl rfl rfl (e85.trans (by first | rfl | (simp [*]; done)))) rfl rfl (by simp only [List.map_toArray, List.map_cons, List.map_nil, qvB e86]) ?_
              refine (qQA.calls k Ac cc s.cs th w' (Kd.qQ C0.out).2.2 (Kd.qQ C0.out).2.1 HH.out).mono ?_
              rintro e_ w1_ ⟨rfl, hb_1⟩
              refine ⟨_, rfl, ?_⟩
              refine hK.out _ _ ⟨(by rw [ha.out]; exact qo 7 hb_ rfl rfl rfl), qSA B.out B.out.size hb_1, Kd.qW LR.out hb_1, Kd.qW C0.out hb_1, Kd.qW D0.out hb_1, M0.out.below hb_1⟩
            refine qm ?_ ?_
            · rintro b a w' ⟨ha, Q_B, Q_LR, Q_C0, Q_D0, Q_M0⟩ hb_ hon hoff
              refine ⟨_, rfl, fun K hK => ?_⟩
              have e87 : a.tmps[87]? = some (.bool th) := by rw [ha]; exact qx (e := (14, 87, .bool th)) 7 rfl rfl (hon 14 (by kernel_rfl)) rfl
              have e85 : a.tmps[85]? = some (.bool false) := by rw [ha]; exact qx (e := (12, 85, .bool false)) 5 rfl rfl (hon 12 (by kernel_rfl)) rfl
              replace ha := Aside0.mk ha
              have B := Aside0.mk Q_B
              have LR := Aside0.mk Q_LR
              have C0 := Aside0.mk Q_C0
              have D0 := Aside0.mk Q_D0
              have M0 := Aside0.mk Q_M0
              refine qwA (w1 := w') (v := .bool (!th)) (qpA rfl rfl rfl (e85.trans (by first | rfl | (simp [*]; done)))) rfl ?_ ?_
              · go_simp
                (try simp only [i64_w])
                try rfl
              refine hK.out _ _ ⟨(by rw [ha.out]; exact qo 8 hb_ rfl rfl rfl), Q_B, Q_LR, Q_C0, Q_D0, Q_M0⟩
            refine qm ?_ ?_
            · rintro b a w' ⟨ha, Q_B, Q_LR, Q_C0, Q_D0, Q_M0⟩ hb_ hon hoff
              refine ⟨_, rfl, fun K hK => ?_⟩
              have e85 : a.tmps[85]? = some (.bool false) := by rw [ha]; exact qx (e := (12, 85, .bool false)) 5 rfl rfl (hon 12 (by kernel_rfl)) rfl
              have e88 : a.tmps[88]? = some (.bool (!th)) := by rw [ha]; exact qx (e := (15, 88, .bool (!th))) 8 rfl rfl (hon 15 (by kernel_rfl)) rfl
              replace ha := Aside0.mk ha
              have B := Aside0.mk Q_B
              have LR := Aside0.mk Q_LR
              have C0 := Aside0.mk Q_C0
              have D0 := Aside0.mk Q_D0
              have M0 := Aside0.mk Q_M0
              refine qwA (w1 := w') (v := .bool (!th)) (by rfl) rfl ?_ ?_
              · go_simp
                (try simp only [i64_w])
                try rfl
              refine hK.out _ _ ⟨(by rw [ha.out]; exact qo 9 hb_ rfl rfl rfl), Q_B, Q_LR, Q_C0, Q_D0, Q_M0⟩
            exact qyB
          · rintro b a w' hall ⟨ha, Q_B, Q_LR, Q_C0, Q_D0, Q_M0⟩
            clear B C0 D0 LR M0
            have hb5_ := hall 5 (by kernel_rfl)
            have hb8_ := hall 8 (by kernel_rfl)
            have hb9_ := hall 9 (by kernel_rfl)
            have hb10_ := hall 10 (by kernel_rfl)
            have hb11_ := hall 11 (by kernel_rfl)
            have hb12_ := hall 12 (by kernel_rfl)
            have hb13_ := hall 13 (by kernel_rfl)
            have hb14_ := hall 14 (by kernel_rfl)
            have hb15_ := hall 15 (by kernel_rfl)
            have hb16_ := hall 16 (by kernel_rfl)
            subst ha
            simp only [putSel, hb5_, hb8_, hb9_, hb10_, hb11_, hb12_, hb13_, hb14_, hb15_, hb16_, if_true, Act.put, List.setIfInBounds_toArray, List.set_cons_zero, List.set_cons_succ]
            have B := Aside0.mk Q_B
            clear Q_B
            have LR := Aside0.mk Q_LR
            clear Q_LR
            have C0 := Aside0.mk Q_C0
            clear Q_C0
            have D0 := Aside0.mk Q_D0
            clear Q_D0
            have M0 := Aside0.mk Q_M0
            clear Q_M0
            clear hall hb5_ hb8_ hb9_ hb10_ hb11_ hb12_ hb13_ hb14_ hb15_ hb16_
            cases th with
            | true =>
              simp only [if_true, Option.some.injEq, Prod.mk.injEq] at hr
              obtain ⟨rfl, rfl, rfl⟩ := hr
              go_wp2
              go_ret3
              exact ⟨_, _, rfl, C0.out, D0.out, B.out⟩
            | false =>
              simp only [Bool.false_eq_true, if_false, Option.some.injEq, Prod.mk.injEq] at hr
              obtain ⟨rfl, rfl, rfl⟩ := hr
              go_wp2
              go_ret3
              exact ⟨_, _, rfl, Kd.R_nil k75 75 _ _ _, Kd.R_nil (Kd.int .i64) 3 _ _ _, B.out⟩
        · rw [if_neg hq] at HFN
          have hqi : ¬ (MapKit.count s.ms : Int) = (r0.size : Int) := by omega
          simp only [Option.some.injEq, Prod.mk.injEq] at HFN
          obtain ⟨rfl, rfl, rfl⟩ := HFN
          refine qxA (n := 17) (S := fun w' => True) (ds := []) #[false, false, false, false, false, false, false, false, false, false, false, false, false, false, false, false, false] (by kernel_rfl) rfl rfl trivial (fun hHeld => ?_); refine qNA sixTab17 sixBits17 (fun HT_ HW_ => ?_)
          refine pure_ (i := 0) (N := some 73) (v := ?_) (a' := ?_) #[true, false, false, false, false, false, false, false, false, false, false, false, false, false, false, false, false] rfl rfl (qKA HT_.out (by kernel_rfl)) (fun _ _ _ h => h) (Or.inl ⟨by rfl, ?_⟩) ?_ ?_
          rotate_left
          · intro w'
            go_simp
            with_reducible rfl
          rotate_left
          · simp only [Act.put, List.setIfInBounds_toArray, List.set_cons_zero, List.set_cons_succ, i64_w, i32_w]
            rfl
          refine pure_ (i := 1) (N := some 74) (v := ?_) (a' := ?_) #[true, true, false, false, false, false, false, false, false, false, false, false, false, false, false, false, false] rfl rfl (qKA HT_.out (by kernel_rfl)) (fun _ _ _ h => h) (Or.inl ⟨by rfl, ?_⟩) ?_ ?_
          rotate_left
          · intro w'
            go_simp
            with_reducible rfl
          rotate_left
          · simp only [Act.put, List.setIfInBounds_toArray, List.set_cons_zero, List.set_cons_succ, i64_w, i32_w]
            rfl
          refine pure_ (i := 2) (N := some 75) (v := ?_) (a' := ?_) #[true, true, true, false, false, false, false, false, false, false, false, false, false, false, false, false, false] rfl rfl (qKA HT_.out (by kernel_rfl)) (fun _ _ _ h => h) (Or.inl ⟨by rfl, ?_⟩) ?_ ?_
          rotate_left
          · intro w'
            go_simp
            with_reducible rfl
          rotate_left
          · simp only [Act.put, List.setIfInBounds_toArray, List.set_cons_zero, List.set_cons_succ, i64_w, i32_w]
            rfl
          refine pure_ (i := 3) (N := some 76) (v := ?_) (a' := ?_) #[true, true, true, true, false, false, false, false, false, false, false, false, false, false, false, false, false] rfl rfl (qKA HT_.out (by kernel_rfl)) (fun _ _ _ h => h) (Or.inl ⟨by rfl, ?_⟩) ?_ ?_
          rotate_left
          · intro w'
            go_simp
            with_reducible rfl
          rotate_left
          · simp only [Act.put, List.setIfInBounds_toArray, List.set_cons_zero, List.set_cons_succ, i64_w, i32_w]
            rfl
          refine pure_ (i := 4) (N := some 77) (v := ?_) (a' := ?_) #[true, true, true, true, true, false, false, false, false, false, false, false, false, false, false, false, false] rfl rfl (qKA HT_.out (by kernel_rfl)) (fun _ _ _ h => h) (Or.inl ⟨by rfl, ?_⟩) ?_ ?_
          rotate_left
          · intro w'
            go_simp
            with_reducible rfl
          rotate_left
          · simp only [Act.put, List.setIfInBounds_toArray, List.set_cons_zero, List.set_cons_succ, i64_w, i32_w]
            rfl
          refine pure_ (i := 6) (N := some 79) (v := ?_) (a' := ?_) #[true, true, true, true, true, false, true, false, false, false, false, false, false, false, false, false, false] rfl rfl (qKA HT_.out (by kernel_rfl)) (fun _ _ _ h => h) (Or.inl ⟨by rfl, ?_⟩) ?_ ?_
          rotate_left
          · intro w'
            go_simp
            with_reducible rfl
          rotate_left
          · simp only [Act.put, List.setIfInBounds_toArray, List.set_cons_zero, List.set_cons_succ, i64_w, i32_w]
            rfl
          refine pure_ (i := 7) (N := some 80) (v := ?_) (a' := ?_) #[true, true, true, true, true, false, true, true, false, false, false, false, false, false, false, false, false] rfl rfl (qKA HT_.out (by kernel_rfl)) (fun _ _ _ h => h) (Or.inl ⟨by rfl, ?_⟩) ?_ ?_
          rotate_left
          · intro w'
            go_simp
            with_reducible rfl
          rotate_left
          · simp only [Act.put, List.setIfInBounds_toArray, List.set_cons_zero, List.set_cons_succ, i64_w, i32_w]
            rfl
          refine qmC [5, 8, 9, 10, 11, 12, 13, 14, 15, 16] (fun a0_ b a w' => a = putSel a0_ b [(5, 78, .int .i64 (MapKit.count s.ms : Int)), (8, 81, .string r0), (9, 82, .int .i64 (r0.size : Int)), (10, 83, .bool true), (11, 84, .bool true), (12, 85, .bool true), (13, 86, undef), (14, 87, undef), (15, 88, undef), (16, 89, .bool true)] ∧ (Below w.heap.size w w') ∧ (Kd.R Kd.string 9 w' w.heap.size (fun _ => True) (.slice (some ad) L.length cw) L) ∧ (Kd.R k75 75 w' w.heap.size (fun _ => True) (.slice Ac s.cs.length cc) s.cs) ∧ (Kd.R (Kd.int .i64) 3 w' w.heap.size (fun _ => True) vd s.ds) ∧ (mapI.Is w' g s.ms)) HT_.out HW_.out (by kernel_rfl) (by kernel_rfl) ?_ ?_ ?_
          · exact ⟨by simp only [putSel, Bool.false_eq_true, if_false], qh B.out, Kd.qI LR.out, Kd.qI C0.out, Kd.qI D0.out, M0.out.drew⟩
          · skip
            clear B C0 D0 LR M0
            refine qm ?_ ?_
            · rintro b a w' ⟨ha, Q_B, Q_LR, Q_C0, Q_D0, Q_M0⟩ hb_ hon hoff
              refine ⟨_, rfl, fun K hK => ?_⟩
              have e77 : a.tmps[77]? = some (.map (some g)) := by rw [ha]; exact (qq rfl).trans rfl
              have e76 : a.tmps[76]? = some (.bool false) := by rw [ha]; exact (qq rfl).trans rfl
              replace ha := Aside0.mk ha
              have B := Aside0.mk Q_B
              have LR := Aside0.mk Q_LR
              have C0 := Aside0.mk Q_C0
              have D0 := Aside0.mk Q_D0
              have M0 := Aside0.mk Q_M0
              have hrl_ := fun ty_ => (show (Builtin.len_ #[72] ty_ #[.map (some g)]).run Tryz.prog w' = .ok (.int .i64 (MapKit.count s.ms)) w' from M0.out.run_len ty_)
              refine qwA (w1 := w') (v := .int .i64 (MapKit.count s.ms : Int)) (qpA rfl rfl rfl (e76.trans (by first | rfl | (simp [*]; done)))) rfl ?_ ?_
              · go_simp
                (try simp only [i64_w])
                try rfl
              refine hK.out _ _ ⟨(by rw [ha.out]; exact qo 0 hb_ rfl rfl rfl), Q_B, Q_LR, Q_C0, Q_D0, Q_M0⟩
            refine qm ?_ ?_
            · rintro b a w' ⟨ha, Q_B, Q_LR, Q_C0, Q_D0, Q_M0⟩ hb_ hon hoff
              refine ⟨_, rfl, fun K hK => ?_⟩
              have e80 : a.tmps[80]? = some (.pointer (some ad)) := by rw [ha]; exact (qq rfl).trans rfl
              have e76 : a.tmps[76]? = some (.bool false) := by rw [ha]; exact (qq rfl).trans rfl
              replace ha := Aside0.mk ha
              have B := Aside0.mk Q_B
              have LR := Aside0.mk Q_LR
              have C0 := Aside0.mk Q_C0
              have D0 := Aside0.mk Q_D0
              have M0 := Aside0.mk Q_M0
              obtain ⟨ad_, e_, hcell_⟩ := Kd.qWB (Kd.qQ LR.out).2.2 (0 : Int) (Int.le_refl 0) HLP.out
              obtain rfl : ad = ad_ := by injection e_
              rw [HR0.out] at hcell_
              have hcell2_ : w'.cell? ad = some (.string r0) := hcell_
              refine qwA (w1 := w') (v := .string r0) (qpA rfl rfl rfl (e76.trans (by first | rfl | (simp [*]; done)))) rfl ?_ ?_
              · go_simp
                (try simp only [i64_w])
                try rfl
              refine hK.out _ _ ⟨(by rw [ha.out]; exact qo 1 hb_ rfl rfl rfl), Q_B, Q_LR, Q_C0, Q_D0, Q_M0⟩
            refine qm ?_ ?_
            · rintro b a w' ⟨ha, Q_B, Q_LR, Q_C0, Q_D0, Q_M0⟩ hb_ hon hoff
              refine ⟨_, rfl, fun K hK => ?_⟩
              have e81 : a.tmps[81]? = some (.string r0) := by rw [ha]; exact qx (e := (8, 81, .string r0)) 1 rfl rfl (hon 8 (by kernel_rfl)) rfl
              have e76 : a.tmps[76]? = some (.bool false) := by rw [ha]; exact (qq rfl).trans rfl
              replace ha := Aside0.mk ha
              have B := Aside0.mk Q_B
              have LR := Aside0.mk Q_LR
              have C0 := Aside0.mk Q_C0
              have D0 := Aside0.mk Q_D0
              have M0 := Aside0.mk Q_M0
              refine qwA (w1 := w') (v := .int .i64 (r0.size : Int)) (qpA rfl rfl rfl (e76.trans (by first | rfl | (simp [*]; done)))) rfl ?_ ?_
              · go_simp
                (try simp only [i64_w])
                try rfl
              refine hK.out _ _ ⟨(by rw [ha.out]; exact qo 2 hb_ rfl rfl rfl), Q_B, Q_LR, Q_C0, Q_D0, Q_M0⟩
            refine qm ?_ ?_
            · rintro b a w' ⟨ha, Q_B, Q_LR, Q_C0, Q_D0, Q_M0⟩ hb_ hon hoff
              refine ⟨_, rfl, fun K hK => ?_⟩
              have e78 : a.tmps[78]? = some (.int .i64 (MapKit.count s.ms : Int)) := by rw [ha]; exact qx (e := (5, 78, .int .i64 (MapKit.count s.ms : Int))) 0 rfl rfl (hon 5 (by kernel_rfl)) rfl
              have e82 : a.tmps[82]? = some (.int .i64 (r0.size : Int)) := by rw [ha]; exact qx (e := (9, 82, .int .i64 (r0.size : Int))) 2 rfl rfl (hon 9 (by kernel_rfl)) rfl
              have e76 : a.tmps[76]? = some (.bool false) := by rw [ha]; exact (qq rfl).trans rfl
              replace ha := Aside0.mk ha
              have B := Aside0.mk Q_B
              have LR := Aside0.mk Q_LR
              have C0 := Aside0.mk Q_C0
              have D0 := Aside0.mk Q_D0
              have M0 := Aside0.mk Q_M0
              refine qwA (w1 := w') (v := .bool true) (qpA rfl rfl rfl (e76.trans (by first | rfl | (simp [*]; done)))) rfl ?_ ?_
              · go_simp
                (try simp only [i64_w])
                try rfl
              refine hK.out _ _ ⟨(by rw [ha.out]; exact qo 3 hb_ rfl rfl rfl), Q_B, Q_LR, Q_C0, Q_D0, Q_M0⟩
            refine qm ?_ ?_
            · rintro b a w' ⟨ha, Q_B, Q_LR, Q_C0, Q_D0, Q_M0⟩ hb_ hon hoff
              refine ⟨_, rfl, fun K hK => ?_⟩
              have e76 : a.tmps[76]? = some (.bool false) := by rw [ha]; exact (qq rfl).trans rfl
              have e83 : a.tmps[83]? = some (.bool true) := by rw [ha]; exact qx (e := (10, 83, .bool true)) 3 rfl rfl (hon 10 (by kernel_rfl)) rfl
              replace ha := Aside0.mk ha
              have B := Aside0.mk Q_B
              have LR := Aside0.mk Q_LR
              have C0 := Aside0.mk Q_C0
              have D0 := Aside0.mk Q_D0
              have M0 := Aside0.mk Q_M0
              refine qwA (w1 := w') (v := .bool true) (by rfl) rfl ?_ ?_
              · go_simp
                (try simp only [i64_w])
                try rfl
              refine hK.out _ _ ⟨(by rw [ha.out]; exact qo 4 hb_ rfl rfl rfl), Q_B, Q_LR, Q_C0, Q_D0, Q_M0⟩
            refine qm ?_ ?_
            · rintro b a w' ⟨ha, Q_B, Q_LR, Q_C0, Q_D0, Q_M0⟩ hb_ hon hoff
              refine ⟨_, rfl, fun K hK => ?_⟩
              have e84 : a.tmps[84]? = some (.bool true) := by rw [ha]; exact qx (e := (11, 84, .bool true)) 4 rfl rfl (hon 11 (by kernel_rfl)) rfl
              replace ha := Aside0.mk ha
              have B := Aside0.mk Q_B
              have LR := Aside0.mk Q_LR
              have C0 := Aside0.mk Q_C0
              have D0 := Aside0.mk Q_D0
              have M0 := Aside0.mk Q_M0
              refine qwA (w1 := w') (v := .bool true) (by rfl) rfl ?_ ?_
              · go_simp
                (try simp only [i64_w])
                try rfl
              refine hK.out _ _ ⟨(by rw [ha.out]; exact qo 5 hb_ rfl rfl rfl), Q_B, Q_LR, Q_C0, Q_D0, Q_M0⟩
            refine qm ?_ ?_
            · rintro b a w' ⟨ha, Q_B, Q_LR, Q_C0, Q_D0, Q_M0⟩ hb_ hon hoff
              refine ⟨_, rfl, fun K hK => ?_⟩
              have e85 : a.tmps[85]? = some (.bool true) := by rw [ha]; exact qx (e := (12, 85, .bool true)) 5 rfl rfl (hon 12 (by kernel_rfl)) rfl
              replace ha := Aside0.mk ha
              have B := Aside0.mk Q_B
              have LR := Aside0.mk Q_LR
              have C0 := Aside0.mk Q_C0
              have D0 := Aside0.mk Q_D0
              have M0 := Aside0.mk Q_M0
              refine off_ (qFC rfl rfl rfl (e85.trans (by first | rfl | (simp [*]; done)))) ?_
              refine hK.out _ _ ⟨(by rw [ha.out]; exact qo 6 hb_ rfl rfl rfl), Q_B, Q_LR, Q_C0, Q_D0, Q_M0⟩
            refine qm ?_ ?_
            · rintro b a w' ⟨ha, Q_B, Q_LR, Q_C0, Q_D0, Q_M0⟩ hb_ hon hoff
              refine ⟨_, rfl, fun K hK => ?_⟩
              have e85 : a.tmps[85]? = some (.bool true) := by rw [ha]; exact qx (e := (12, 85, .bool true)) 5 rfl rfl (hon 12 (by kernel_rfl)) rfl
              replace ha := Aside0.mk ha
              have B := Aside0.mk Q_B
              have LR := Aside0.mk Q_LR
              have C0 := Aside0.mk Q_C0
              have D0 := Aside0.mk Q_D0
              have M0 := Aside0.mk Q_M0
              refine off_ (qFC rfl rfl rfl (e85.trans (by first | rfl | (simp [*]; done)))) ?_
              refine hK.out _ _ ⟨(by rw [ha.out]; exact qo 7 hb_ rfl rfl rfl), Q_B, Q_LR, Q_C0, Q_D0, Q_M0⟩
            refine qm ?_ ?_
            · rintro b a w' ⟨ha, Q_B, Q_LR, Q_C0, Q_D0, Q_M0⟩ hb_ hon hoff
              refine ⟨_, rfl, fun K hK => ?_⟩
              have e85 : a.tmps[85]? = some (.bool true) := by rw [ha]; exact qx (e := (12, 85, .bool true)) 5 rfl rfl (hon 12 (by kernel_rfl)) rfl
              replace ha := Aside0.mk ha
              have B := Aside0.mk Q_B
              have LR := Aside0.mk Q_LR
              have C0 := Aside0.mk Q_C0
              have D0 := Aside0.mk Q_D0
              have M0 := Aside0.mk Q_M0
              refine off_ (qFC rfl rfl rfl (e85.trans (by first | rfl | (simp [*]; done)))) ?_
              refine hK.out _ _ ⟨(by rw [ha.out]; exact qo 8 hb_ rfl rfl rfl), Q_B, Q_LR, Q_C0, Q_D0, Q_M0⟩
            refine qm ?_ ?_
            · rintro b a w' ⟨ha, Q_B, Q_LR, Q_C0, Q_D0, Q_M0⟩ hb_ hon hoff
              refine ⟨_, rfl, fun K hK => ?_⟩
              have e85 : a.tmps[85]? = some (.bool true) := by rw [ha]; exact qx (e := (12, 85, .bool true)) 5 rfl rfl (hon 12 (by kernel_rfl)) rfl
              have e88 : a.tmps[88]? = some (undef) := by rw [ha]; exact qx (e := (15, 88, undef)) 8 rfl rfl (hon 15 (by kernel_rfl)) rfl
              replace ha := Aside0.mk ha
              have B := Aside0.mk Q_B
              have LR := Aside0.mk Q_LR
              have C0 := Aside0.mk Q_C0
              have D0 := Aside0.mk Q_D0
              have M0 := Aside0.mk Q_M0
              refine qwA (w1 := w') (v := .bool true) (by rfl) rfl ?_ ?_
              · go_simp
                (try simp only [i64_w])
                try rfl
              refine hK.out _ _ ⟨(by rw [ha.out]; exact qo 9 hb_ rfl rfl rfl), Q_B, Q_LR, Q_C0, Q_D0, Q_M0⟩
            exact qyB
          · rintro b a w' hall ⟨ha, Q_B, Q_LR, Q_C0, Q_D0, Q_M0⟩
            clear B C0 D0 LR M0
            have hb5_ := hall 5 (by kernel_rfl)
            have hb8_ := hall 8 (by kernel_rfl)
            have hb9_ := hall 9 (by kernel_rfl)
            have hb10_ := hall 10 (by kernel_rfl)
            have hb11_ := hall 11 (by kernel_rfl)
            have hb12_ := hall 12 (by kernel_rfl)
            have hb13_ := hall 13 (by kernel_rfl)
            have hb14_ := hall 14 (by kernel_rfl)
            have hb15_ := hall 15 (by kernel_rfl)
            have hb16_ := hall 16 (by kernel_rfl)
            subst ha
            simp only [putSel, hb5_, hb8_, hb9_, hb10_, hb11_, hb12_, hb13_, hb14_, hb15_, hb16_, if_true, Act.put, List.setIfInBounds_toArray, List.set_cons_zero, List.set_cons_succ]
            have B := Aside0.mk Q_B
            clear Q_B
            have LR := Aside0.mk Q_LR
            clear Q_LR
            have C0 := Aside0.mk Q_C0
            clear Q_C0
            have D0 := Aside0.mk Q_D0
            clear Q_D0
            have M0 := Aside0.mk Q_M0
            clear Q_M0
            clear hall hb5_ hb8_ hb9_ hb10_ hb11_ hb12_ hb13_ hb14_ hb15_ hb16_
            go_wp2
            go_ret3
            exact ⟨_, _, rfl, Kd.R_nil k75 75 _ _ _, Kd.R_nil (Kd.int .i64) 3 _ _ _, B.out⟩
      · rw [if_neg h6] at HFN
        have h6i : ¬ (s.cs.length : Int) = 6 := by omega
        have h6b : ((s.cs.length : Int) != 6) = true := bne_iff_ne.2 h6i
        have h6c : ((s.cs.length : Int) == 6) = false := beq_eq_false_iff_ne.2 h6i
        have h6d : decide ((s.cs.length : Int) = 6) = false := decide_eq_false h6i
        simp only [Option.some.injEq, Prod.mk.injEq] at HFN
        obtain ⟨rfl, rfl, rfl⟩ := HFN
        refine qxA (n := 17) (S := fun w' => True) (ds := []) #[false, false, false, false, false, false, false, false, false, false, false, false, false, false, false, false, false] (by kernel_rfl) rfl rfl trivial (fun hHeld => ?_); refine qNA sixTab17 sixBits17 (fun HT_ HW_ => ?_)
        refine pure_ (i := 0) (N := some 73) (v := ?_) (a' := ?_) #[true, false, false, false, false, false, false, false, false, false, false, false, false, false, false, false, false] rfl rfl (qKA HT_.out (by kernel_rfl)) (fun _ _ _ h => h) (Or.inl ⟨by rfl, ?_⟩) ?_ ?_
        rotate_left
        · intro w'
          go_simp
          with_reducible rfl
        rotate_left
        · simp only [Act.put, List.setIfInBounds_toArray, List.set_cons_zero, List.set_cons_succ, i64_w, i32_w]
          rfl
        refine pure_ (i := 1) (N := some 74) (v := ?_) (a' := ?_) #[true, true, false, false, false, false, false, false, false, false, false, false, false, false, false, false, false] rfl rfl (qKA HT_.out (by kernel_rfl)) (fun _ _ _ h => h) (Or.inl ⟨by rfl, ?_⟩) ?_ ?_
        rotate_left
        · intro w'
          go_simp
          with_reducible rfl
        rotate_left
        · simp only [Act.put, List.setIfInBounds_toArray, List.set_cons_zero, List.set_cons_succ, i64_w, i32_w]
          rfl
        refine pure_ (i := 2) (N := some 75) (v := ?_) (a' := ?_) #[true, true, true, false, false, false, false, false, false, false, false, false, false, false, false, false, false] rfl rfl (qKA HT_.out (by kernel_rfl)) (fun _ _ _ h => h) (Or.inl ⟨by rfl, ?_⟩) ?_ ?_
        rotate_left
        · intro w'
          go_simp
          with_reducible rfl
        rotate_left
        · simp only [Act.put, List.setIfInBounds_toArray, List.set_cons_zero, List.set_cons_succ, i64_w, i32_w]
          rfl
        refine pure_ (i := 3) (N := some 76) (v := ?_) (a' := ?_) #[true, true, true, true, false, false, false, false, false, false, false, false, false, false, false, false, false] rfl rfl (qKA HT_.out (by kernel_rfl)) (fun _ _ _ h => h) (Or.inl ⟨by rfl, ?_⟩) ?_ ?_
        rotate_left
        · intro w'
          go_simp
          with_reducible rfl
        rotate_left
        · simp only [Act.put, List.setIfInBounds_toArray, List.set_cons_zero, List.set_cons_succ, i64_w, i32_w]
          rfl
        refine pure_ (i := 4) (N := some 77) (v := undef) (a' := ?_) #[true, true, true, true, true, false, false, false, false, false, false, false, false, false, false, false, false] rfl rfl (qKA HT_.out (by kernel_rfl)) (fun _ _ _ h => h) (Or.inr ⟨by rfl, rfl⟩) ?_ ?_
        rotate_left
        · simp only [Act.put, List.setIfInBounds_toArray, List.set_cons_zero, List.set_cons_succ, i64_w, i32_w]
          rfl
        refine pure_ (i := 5) (N := some 78) (v := undef) (a' := ?_) #[true, true, true, true, true, true, false, false, false, false, false, false, false, false, false, false, false] rfl rfl (qKA HT_.out (by kernel_rfl)) (fun _ _ _ h => h) (Or.inr ⟨by rfl, rfl⟩) ?_ ?_
        rotate_left
        · simp only [Act.put, List.setIfInBounds_toArray, List.set_cons_zero, List.set_cons_succ, i64_w, i32_w]
          rfl
        refine pure_ (i := 6) (N := some 79) (v := undef) (a' := ?_) #[true, true, true, true, true, true, true, false, false, false, false, false, false, false, false, false, false] rfl rfl (qKA HT_.out (by kernel_rfl)) (fun _ _ _ h => h) (Or.inr ⟨by rfl, rfl⟩) ?_ ?_
        rotate_left
        · simp only [Act.put, List.setIfInBounds_toArray, List.set_cons_zero, List.set_cons_succ, i64_w, i32_w]
          rfl
        refine pure_ (i := 7) (N := some 80) (v := undef) (a' := ?_) #[true, true, true, true, true, true, true, true, false, false, false, false, false, false, false, false, false] rfl rfl (qKA HT_.out (by kernel_rfl)) (fun _ _ _ h => h) (Or.inr ⟨by rfl, rfl⟩) ?_ ?_
        rotate_left
        · simp only [Act.put, List.setIfInBounds_toArray, List.set_cons_zero, List.set_cons_succ, i64_w, i32_w]
          rfl
        refine pure_ (i := 8) (N := some 81) (v := undef) (a' := ?_) #[true, true, true, true, true, true, true, true, true, false, false, false, false, false, false, false, false] rfl rfl (qKA HT_.out (by kernel_rfl)) (fun _ _ _ h => h) (Or.inr ⟨by rfl, rfl⟩) ?_ ?_
        rotate_left
        · simp only [Act.put, List.setIfInBounds_toArray, List.set_cons_zero, List.set_cons_succ, i64_w, i32_w]
          rfl
        refine pure_ (i := 9) (N := some 82) (v := undef) (a' := ?_) #[true, true, true, true, true, true, true, true, true, true, false, false, false, false, false, false, false] rfl rfl (qKA HT_.out (by kernel_rfl)) (fun _ _ _ h => h) (Or.inr ⟨by rfl, rfl⟩) ?_ ?_
        rotate_left
        · simp only [Act.put, List.setIfInBounds_toArray, List.set_cons_zero, List.set_cons_succ, i64_w, i32_w]
          rfl
        refine pure_ (i := 10) (N := some 83) (v := undef) (a' := ?_) #[true, true, true, true, true, true, true, true, true, true, true, false, false, false, false, false, false] rfl rfl (qKA HT_.out (by kernel_rfl)) (fun _ _ _ h => h) (Or.inr ⟨by rfl, rfl⟩) ?_ ?_
        rotate_left
        · simp only [Act.put, List.setIfInBounds_toArray, List.set_cons_zero, List.set_cons_succ, i64_w, i32_w]
          rfl
        refine pure_ (i := 11) (N := some 84) (v := ?_) (a' := ?_) #[true, true, true, true, true, true, true, true, true, true, true, true, false, false, false, false, false] rfl rfl (qKA HT_.out (by kernel_rfl)) (fun _ _ _ h => h) (Or.inl ⟨by rfl, ?_⟩) ?_ ?_
        rotate_left
        · intro w'
          go_simp
          with_reducible rfl
        rotate_left
        · simp only [Act.put, List.setIfInBounds_toArray, List.set_cons_zero, List.set_cons_succ, i64_w, i32_w]
          rfl
        refine pure_ (i := 12) (N := some 85) (v := ?_) (a' := ?_) #[true, true, true, true, true, true, true, true, true, true, true, true, true, false, false, false, false] rfl rfl (qKA HT_.out (by kernel_rfl)) (fun _ _ _ h => h) (Or.inl ⟨by rfl, ?_⟩) ?_ ?_
        rotate_left
        · intro w'
          go_simp
          with_reducible rfl
        rotate_left
        · simp only [Act.put, List.setIfInBounds_toArray, List.set_cons_zero, List.set_cons_succ, i64_w, i32_w]
          rfl
        refine pure_ (i := 13) (N := some 86) (v := undef) (a' := ?_) #[true, true, true, true, true, true, true, true, true, true, true, true, true, true, false, false, false] rfl rfl (qKA HT_.out (by kernel_rfl)) (fun _ _ _ h => h) (Or.inr ⟨by rfl, rfl⟩) ?_ ?_
        rotate_left
        · simp only [Act.put, List.setIfInBounds_toArray, List.set_cons_zero, List.set_cons_succ, i64_w, i32_w]
          rfl
        refine pure_ (i := 14) (N := some 87) (v := undef) (a' := ?_) #[true, true, true, true, true, true, true, true, true, true, true, true, true, true, true, false, false] rfl rfl (qKA HT_.out (by kernel_rfl)) (fun _ _ _ h => h) (Or.inr ⟨by rfl, rfl⟩) ?_ ?_
        rotate_left
        · simp only [Act.put, List.setIfInBounds_toArray, List.set_cons_zero, List.set_cons_succ, i64_w, i32_w]
          rfl
        refine pure_ (i := 15) (N := some 88) (v := undef) (a' := ?_) #[true, true, true, true, true, true, true, true, true, true, true, true, true, true, true, true, false] rfl rfl (qKA HT_.out (by kernel_rfl)) (fun _ _ _ h => h) (Or.inr ⟨by rfl, rfl⟩) ?_ ?_
        rotate_left
        · simp only [Act.put, List.setIfInBounds_toArray, List.set_cons_zero, List.set_cons_succ, i64_w, i32_w]
          rfl
        refine qmC [16] (fun a0_ b a w' => a = putSel a0_ b [(16, 89, .bool true)] ∧ (Below w.heap.size w w') ∧ (Kd.R Kd.string 9 w' w.heap.size (fun _ => True) (.slice (some ad) L.length cw) L) ∧ (Kd.R k75 75 w' w.heap.size (fun _ => True) (.slice Ac s.cs.length cc) s.cs) ∧ (Kd.R (Kd.int .i64) 3 w' w.heap.size (fun _ => True) vd s.ds) ∧ (mapI.Is w' g s.ms)) HT_.out HW_.out (by kernel_rfl) (by kernel_rfl) ?_ ?_ ?_
        · exact ⟨by simp only [putSel, Bool.false_eq_true, if_false], qh B.out, Kd.qI LR.out, Kd.qI C0.out, Kd.qI D0.out, M0.out.drew⟩
        · skip
          clear B C0 D0 LR M0
          refine qm ?_ ?_
          · rintro b a w' ⟨ha, Q_B, Q_LR, Q_C0, Q_D0, Q_M0⟩ hb_ hon hoff
            refine ⟨_, rfl, fun K hK => ?_⟩
            have e85 : a.tmps[85]? = some (.bool true) := by rw [ha]; exact (qq rfl).trans rfl
            have e88 : a.tmps[88]? = some (undef) := by rw [ha]; exact (qq rfl).trans rfl
            replace ha := Aside0.mk ha
            have B := Aside0.mk Q_B
            have LR := Aside0.mk Q_LR
            have C0 := Aside0.mk Q_C0
            have D0 := Aside0.mk Q_D0
            have M0 := Aside0.mk Q_M0
            refine qwA (w1 := w') (v := .bool true) (by rfl) rfl ?_ ?_
            · go_simp
              (try simp only [i64_w])
              try rfl
            refine hK.out _ _ ⟨(by rw [ha.out]; exact qo 0 hb_ rfl rfl rfl), Q_B, Q_LR, Q_C0, Q_D0, Q_M0⟩
          exact qyB
        · rintro b a w' hall ⟨ha, Q_B, Q_LR, Q_C0, Q_D0, Q_M0⟩
          clear B C0 D0 LR M0
          have hb16_ := hall 16 (by kernel_rfl)
          subst ha
          simp only [putSel, hb16_, if_true, Act.put, List.setIfInBounds_toArray, List.set_cons_zero, List.set_cons_succ]
          have B := Aside0.mk Q_B
          clear Q_B
          have LR := Aside0.mk Q_LR
          clear Q_LR
          have C0 := Aside0.mk Q_C0
          clear Q_C0
          have D0 := Aside0.mk Q_D0
          clear Q_D0
          have M0 := Aside0.mk Q_M0
          clear Q_M0
          clear hall hb16_
          go_wp2
          go_ret3
          exact ⟨_, _, rfl, Kd.R_nil k75 75 _ _ _, Kd.R_nil (Kd.int .i64) 3 _ _ _, B.out⟩
end P
end Go.Proofs.YtdncpkppkafkpaaGreatDoor
namespace Go.Proofs.YtdncpkppkafkpaaGreatDoor.P
open Go.RowKit Go.Proofs.YtdncpkppkafkpaaGreatDoorW.PrintWords Go.Proofs.YtdncpkppkafkpaaGreatDoorW.PrintLast Go.Proofs.YtdncpkppkafkpaaGreatDoorW.PrintMore
attribute [local go_sem] qw qu qHA qGA qj qi qv qt
set_option linter.unusedVariables false
set_option linter.unusedSimpArgs false
def qeB.f (k : Nat) (a0 : ByteArray) : Option ((List (S75)) × List Int × Bool) := (qGB.f k a0).bind fun bt487 => (if bt487.2.2 = true then ((qFA.f k bt487.1).bind fun t494 => (some (bt487.1, bt487.2.1, t494))) else (some (bt487.1, bt487.2.1, false)))
set_option maxHeartbeats 8000000 in
set_option maxRecDepth 100000 in
theorem qeB.calls (k : Nat) (a0 : ByteArray) (r1 : List (S75)) (r2 : List Int) (r3 : Bool) (w : World) (hL : Laid w) (h : qeB.f k a0 = some (r1, r2, r3)) :
  Calls Tryz.prog 15 #[.string a0] w fun e w' => ∃ v0_ v1_ : Value, e = .returned (.tuple #[v0_, v1_, .bool r3]) ∧ Kd.R k75 75 w' w.heap.size (fun _ => True) v0_ r1 ∧ Kd.R (Kd.int .i64) 3 w' w.heap.size (fun _ => True) v1_ r2 ∧ Below w.heap.size w w' := by
 have HLD := Aside0.mk hL
 clear hL
 have HB := Aside0.mk (Below.refl w.heap.size w)
 have H : ((qGB.f k a0).bind fun bt487 => (if bt487.2.2 = true then ((qFA.f k bt487.1).bind fun t494 => (some (bt487.1, bt487.2.1, t494))) else (some (bt487.1, bt487.2.1, false)))) = some (r1, r2, r3) := h
 clear h
 replace H := Option.bind_eq_some_iff.mp H
 obtain ⟨⟨t487, t488, t489⟩, A20, H⟩ := H
 replace H : (if t489 = true then ((qFA.f k t487).bind fun t494 => (some (t487, t488, t494))) else (some (t487, t488, false))) = some (r1, r2, r3) := H
 have A2 := Aside0.mk A20
 clear A20
 by_cases c3 : t489 = true
 ·subst c3
  have H1 : ((qFA.f k t487).bind fun t494 => (some (t487, t488, t494))) = some (r1, r2, r3) := by rw [if_pos rfl] at H; exact H
  clear H
  have H := H1
  clear H1
  replace H := Option.bind_eq_some_iff.mp H
  obtain ⟨t494, A40, H⟩ := H
  replace H : (some (t487, t488, t494)) = some (r1, r2, r3) := H
  have A4 := Aside0.mk A40
  clear A40
  simp only [Option.some.injEq, Prod.mk.injEq] at H
  obtain ⟨rfl, rfl, rfl⟩ := H
  go_enter Tryz.func15, Tryz.ntmps15
  go_wp2_with (first | ((with_reducible refine qb (f := 25) rfl ?_); refine qRA (some 10) rfl rfl Tryz.func25 (by kernel_rfl) rfl #[.string a0] rfl (by (try simp only [List.map_toArray, List.map_cons, List.map_nil]); first | done | rfl | (simp only [List.length_drop, List.length_take]; rfl)) ?_; (with_reducible refine (qGB.calls k a0 t487 t488 true _ ?side1 A2.out).mono ?_); (case side1 => first | (with_reducible exact HLD.out) | exact Laid.below HLD.out bl); rintro e w5 ⟨v490, v492, rfl, ho0, ho1, hb⟩; refine ⟨_, rfl, ?_⟩; have n0_ := Aside0.mk (Kd.qAA ho0 (qa bl)); have n1_ := Aside0.mk (Kd.qAA ho1 (qa bl)); have n2_ := Aside0.mk (qK bl hb); clear HB; have HO491 := n0_; have HO493 := n1_; have HB := n2_; clear n0_ n1_ n2_; (try clear hb); (try clear hb2); (try clear hk); (try clear hi); (try clear ho0); (try clear ho1); obtain ⟨Ao6, co6, eo6⟩ := Kd.qp HO491.out; subst eo6) | (go_at_call 26; (with_reducible refine (qFA.calls k _ _ t487 t494 _ ?side1 ?side2 A4.out).mono ?_); (case side1 => repeat (first | exact (Kd.qQ HO491.out).2.2 | (with_reducible refine Kd.qcA ?_ _) | (with_reducible refine Kd.qbA ?_ _) | (with_reducible refine Kd.qtA ?_))); (case side2 => exact (Kd.qQ HO491.out).2.1); rintro e w7 ⟨rfl, hb⟩; have n0_ := Aside0.mk (Kd.qW (by (with_reducible repeat (first | apply Kd.qG | apply Kd.qH | apply Kd.qI)); exact HO491.out) hb); have n1_ := Aside0.mk (Kd.qW (by (with_reducible repeat (first | apply Kd.qG | apply Kd.qH | apply Kd.qI)); exact HO493.out) hb); have n2_ := Aside0.mk (qK bl hb); clear HO491; clear HO493; clear HB; have HO491 := n0_; have HO493 := n1_; have HB := n2_; clear n0_ n1_ n2_; (try clear hb); (try clear hb2); (try clear hk); (try clear hi)))
  go_ret3
  exact ⟨_, _, by first | rfl | (simp [qN, qM] <;> rfl) | (simp [*, qN, qM] <;> rfl), by (with_reducible repeat (first | apply Kd.qG | apply Kd.qH | apply Kd.qI)); exact HO491.out, by (with_reducible repeat (first | apply Kd.qG | apply Kd.qH | apply Kd.qI)); exact HO493.out, bl⟩
 ·replace c3 := Bool.eq_false_iff.mpr c3
  subst c3
  have H1 : (some (t487, t488, false)) = some (r1, r2, r3) := by rw [if_neg (show ¬ (false = true) by decide)] at H; exact H
  clear H
  have H := H1
  clear H1
  simp only [Option.some.injEq, Prod.mk.injEq] at H
  obtain ⟨rfl, rfl, rfl⟩ := H
  go_enter Tryz.func15, Tryz.ntmps15
  go_wp2_with (first | ((with_reducible refine qb (f := 25) rfl ?_); refine qRA (some 10) rfl rfl Tryz.func25 (by kernel_rfl) rfl #[.string a0] rfl (by (try simp only [List.map_toArray, List.map_cons, List.map_nil]); first | done | rfl | (simp only [List.length_drop, List.length_take]; rfl)) ?_; (with_reducible refine (qGB.calls k a0 t487 t488 false _ ?side1 A2.out).mono ?_); (case side1 => first | (with_reducible exact HLD.out) | exact Laid.below HLD.out bl); rintro e w8 ⟨v490, v492, rfl, ho0, ho1, hb⟩; refine ⟨_, rfl, ?_⟩; have n0_ := Aside0.mk (Kd.qAA ho0 (qa bl)); have n1_ := Aside0.mk (Kd.qAA ho1 (qa bl)); have n2_ := Aside0.mk (qK bl hb); clear HB; have HO491 := n0_; have HO493 := n1_; have HB := n2_; clear n0_ n1_ n2_; (try clear hb); (try clear hb2); (try clear hk); (try clear hi); (try clear ho0); (try clear ho1)))
  go_ret3
  exact ⟨_, _, by first | rfl | (simp [qN, qM] <;> rfl) | (simp [*, qN, qM] <;> rfl), by (with_reducible repeat (first | apply Kd.qG | apply Kd.qH | apply Kd.qI)); exact HO491.out, by (with_reducible repeat (first | apply Kd.qG | apply Kd.qH | apply Kd.qI)); exact HO493.out, bl⟩
def qAB.f (k : Nat) (a0 : ByteArray) : Option (Bool) := (qeB.f k a0).bind fun bt495 => (some bt495.2.2)
set_option maxHeartbeats 8000000 in
set_option maxRecDepth 100000 in
theorem qAB.calls (k : Nat) (a0 : ByteArray) (r : Bool) (w : World) (hL : Laid w) (h : qAB.f k a0 = some r) :
  Calls Tryz.prog 9 #[.string a0] w fun e w' => e = .returned (.bool r) ∧ Below w.heap.size w w' := by
 have HLD := Aside0.mk hL
 clear hL
 have HB := Aside0.mk (Below.refl w.heap.size w)
 have H : ((qeB.f k a0).bind fun bt495 => (some bt495.2.2)) = some r := h
 clear h
 replace H := Option.bind_eq_some_iff.mp H
 obtain ⟨⟨t495, t496, t497⟩, A20, H⟩ := H
 replace H : (some t497) = some r := H
 have A2 := Aside0.mk A20
 clear A20
 obtain rfl := Option.some.inj H
 go_enter Tryz.func9, Tryz.ntmps9
 go_wp2_with (first | ((with_reducible refine qb (f := 15) rfl ?_); refine qRA (some 8) rfl rfl Tryz.func15 (by kernel_rfl) rfl #[.string a0] rfl (by (try simp only [List.map_toArray, List.map_cons, List.map_nil]); first | done | rfl | (simp only [List.length_drop, List.length_take]; rfl)) ?_; (with_reducible refine (qeB.calls k a0 t495 t496 t497 _ ?side1 A2.out).mono ?_); (case side1 => first | (with_reducible exact HLD.out) | exact Laid.below HLD.out bl); rintro e w3 ⟨v498, v500, rfl, ho0, ho1, hb⟩; refine ⟨_, rfl, ?_⟩; have n0_ := Aside0.mk (Kd.qAA ho0 (qa bl)); have n1_ := Aside0.mk (Kd.qAA ho1 (qa bl)); have n2_ := Aside0.mk (qK bl hb); clear HB; have HO499 := n0_; have HO501 := n1_; have HB := n2_; clear n0_ n1_ n2_; (try clear hb); (try clear hb2); (try clear hk); (try clear hi); (try clear ho0); (try clear ho1)))
 go_ret
 exact ⟨by first | rfl | (simp [qN, qM] <;> rfl) | (simp [*, qN, qM] <;> rfl), bl⟩
def qn.T3 : Bool × List (List Nat × List Nat) := (true, [([], []), ([], []), ([], []), ([], []), ([], []), ([], []), ([4, 5], [4, 5]), ([6], [6]), ([], []), ([], []), ([8, 9], [8, 9]), ([10], [10]), ([0, 1, 0, 1, 4, 5, 6, 7, 11], [0, 1]), ([12, 7, 0, 1, 4, 5, 6, 7, 11], [7, 12]), ([2, 3, 0, 1, 2, 3, 4, 5, 6, 7, 8, 9, 10, 11, 12, 13], [2, 3]), ([14, 11, 13, 0, 1, 2, 3, 4, 5, 6, 7, 8, 9, 10, 11, 12, 13], [11, 14])])
def qn.B3 : List Nat := [0, 0, 0, 0, 0, 0, 48, 112, 0, 0, 768, 1792, 4083, 8179, 16383, 32767]
theorem qn.tab3 : rtab .any (opsOf Tryz.f16 3) = qn.T3 := by kernel_rfl
theorem qn.bits3 : waitsOk qn.T3.2 qn.B3 = true := by kernel_rfl
end Go.Proofs.YtdncpkppkafkpaaGreatDoor.P
namespace Go.Proofs.YtdncpkppkafkpaaGreatDoor
open Go.RowKit Go.Proofs.YtdncpkppkafkpaaGreatDoor.P Go.Proofs.YtdncpkppkafkpaaGreatDoorW.PrintWords Go.Proofs.YtdncpkppkafkpaaGreatDoorW.PrintLast
set_option linter.unusedVariables false
set_option linter.unusedSimpArgs false
def rvAt (L : List Int) (i q : Nat) : Int := if q < i ∨ L.length ≤ q + i then L.getD (L.length - 1 - q) 0 else L.getD q 0
def RvIs (L : List Int) (i : Nat) (cs : Array Value) : Prop := ∀ q, q < L.length → cs[q]? = some (.int .u8 (rvAt L i q))
theorem rvAt_low {L : List Int} {i j : Nat} (h : i + j + 1 = L.length) (hl : i < j) : rvAt L i i = L.getD i 0 ∧ rvAt L i j = L.getD j 0 := by
 constructor
 ·unfold rvAt; rw [if_neg (by omega)]
 ·unfold rvAt; rw [if_neg (by omega)]
theorem RvIs.step {L : List Int} {i j : Nat} {cs : Array Value} (h : RvIs L i cs) (hn : i + j + 1 = L.length) (hl : i < j) : RvIs L (i + 1) ((cs.setIfInBounds i (.int .u8 (L.getD j 0))).setIfInBounds j (.int .u8 (L.getD i 0))) := by
 intro q hq
 have hi := (Array.getElem?_eq_some_iff.1 (h i (by omega))).1
 have hj := (Array.getElem?_eq_some_iff.1 (h j (by omega))).1
 by_cases e2 : q = j
 ·subst e2
  rw [Array.getElem?_setIfInBounds_self_of_lt (by simpa using hj)]
  unfold rvAt
  rw [if_pos (by omega), show L.length - 1 - q = i by omega]
 ·rw [Array.getElem?_setIfInBounds_ne (by omega)]
  by_cases e1 : q = i
  ·subst e1
   rw [Array.getElem?_setIfInBounds_self_of_lt hi]
   unfold rvAt
   rw [if_pos (by omega), show L.length - 1 - q = j by omega]
  ·rw [Array.getElem?_setIfInBounds_ne (by omega), h q hq]
   unfold rvAt
   by_cases h1 : q < i ∨ L.length ≤ q + i
   ·rw [if_pos h1, if_pos (by omega)]
   ·rw [if_neg h1, if_neg (by omega)]
theorem rvAt_end {L : List Int} {i j q : Nat} (h : i + j + 1 = L.length) (hl : ¬ i < j) (hij : i ≤ j + 1) (hq : q < L.length) : rvAt L i q = L.reverse.getD q 0 := by
 have e : L.reverse.getD q 0 = L.getD (L.length - 1 - q) 0 := by
  rw [List.getD_eq_getElem?_getD, List.getD_eq_getElem?_getD, List.getElem?_reverse hq]
 rw [e]
 unfold rvAt
 by_cases h1 : q < i ∨ L.length ≤ q + i
 ·rw [if_pos h1]
 ·rw [if_neg h1, show L.length - 1 - q = q by omega]
attribute [local go_sem] cell_set_map
set_option maxHeartbeats 4000000 in
set_option maxRecDepth 100000 in
theorem revB_calls (L : List Int) (hL : L.length ≤ 1000000) (B cap : Nat) (fz : Nat × Nat) (cs0 : Array Value) (w0 w : World) (hb : Below w0.heap.size w0 w) (hB : w0.heap.size ≤ B) (hblk : Blk w B 5 cs0 fz) (hfz : L.length ≤ fz.1) (hc : ∀ q, q < L.length → cs0[q]? = some (.int .u8 (L.getD q 0))) :
  Calls Tryz.prog 16 #[.slice (some ⟨B, 0, none⟩) L.length cap] w fun e w' => e = .returned (.tuple #[]) ∧ (∃ cs, Blk w' B 5 cs fz ∧ ∀ q, q < L.length → cs[q]? = some (.int .u8 (L.reverse.getD q 0))) ∧ Below w0.heap.size w0 w' := by
 have HC := Aside0.mk hc
 have HBK := Aside0.mk hblk
 have HB := Aside0.mk hb
 have HGB := Aside0.mk hB
 have HFZ := Aside0.mk hfz
 clear hc hblk hb hB hfz
 rcases Nat.eq_zero_or_pos L.length with h0 | h0
 ·rw [h0]
  have HH0 := Aside0.mk h0
  clear h0
  go_enter Tryz.func16, Tryz.ntmps16
  go_wp2
  go_loopg [2, 3] 0 (fun g s2 s3 wr => s2 = .int .i64 0 ∧ s3 = .int .i64 (-1) ∧ wr = w)
  case atStart => exact ⟨rfl, rfl, rfl⟩
  case round =>
   obtain ⟨rfl, rfl, rfl⟩ := hrel
   go_wp2
   first | go_end0 | ((try simp only [Exit.inBlock, Exit.then]); refine bodyPost_ret (results_none rfl _ _ _) rfl ?_)
   exact ⟨rfl, ⟨cs0, HBK.out, fun q hq => by have := HH0.out; omega⟩, HB.out⟩
 ·generalize hn : L.length = n at *
  have HN := Aside0.mk hn
  clear hn
  have HH0 := Aside0.mk h0
  clear h0
  go_enter Tryz.func16, Tryz.ntmps16
  have hw1 : IntKind.i64.wrap ((n : Int) - 1) = (n : Int) - 1 := by rw [IntKind.wrap_i64]; omega
  go_wp2
  go_loopg [2, 3] n (fun g s2 s3 wr => ∃ (i j : Nat) (cs : Array Value), s2 = .int .i64 (i : Int) ∧ s3 = .int .i64 (j : Int) ∧ i + j + 1 = n ∧ i ≤ j + 1 ∧ n - i ≤ g ∧ Aside0 (Blk wr B 5 cs fz) ∧ Aside0 (RvIs L i cs) ∧ Aside0 (Below w0.heap.size w0 wr))
  case atStart =>
   refine ⟨0, n - 1, cs0, rfl, ?_, ?_, by omega, by omega, HBK, ⟨fun q hq => ?_⟩, HB⟩
   ·first | rfl | (have := HH0.out; rw [show ((n - 1 : Nat) : Int) = (n : Int) - 1 by omega])
   ·have := HH0.out; omega
   ·rw [HC.out q (HN.out ▸ hq)]
    unfold rvAt
    rw [if_neg (by omega)]
  case round =>
   clear HBK HB HC
   obtain ⟨i, j, cs, rfl, rfl, hij, hle, hg, HBK, HRV, HB⟩ := hrel
   by_cases hlt : i < j
   ·obtain ⟨v1, v2⟩ := rvAt_low (L := L) (by rw [HN.out]; exact hij) hlt
    have hci := (HBK.out.cell i).trans (HRV.out i (by rw [HN.out]; omega))
    have hcj := (HBK.out.cell j).trans (HRV.out j (by rw [HN.out]; omega))
    rw [v1] at hci
    rw [v2] at hcj
    have hfi := HBK.out.frozen i (.inl (by have := HFZ.out; omega))
    have hfj := HBK.out.frozen j (.inl (by have := HFZ.out; omega))
    have HRV2 := Aside0.mk (HRV.out.step (by rw [HN.out]; exact hij) hlt)
    clear v1 v2 HRV
    generalize L.getD i 0 = x at hci HRV2
    generalize L.getD j 0 = y at hcj HRV2
    have hin : i < n := by omega
    have hjn : j < n := by omega
    have hii : (i : Int) < (n : Int) := by omega
    have hjj : (j : Int) < (n : Int) := by omega
    have hne : i ≠ j := by omega
    have hne2 : j ≠ i := by omega
    have hlti : (i : Int) < (j : Int) := by omega
    have HBD := Aside0.mk (show Blk wr.drew B 5 cs fz from HBK.out)
    have HBB := Aside0.mk (qh HB.out)
    clear HBK HB
    change wr.drew.cell? _ = _ at hci
    change wr.drew.cell? _ = _ at hcj
    change wr.drew.frozen? _ = _ at hfi
    change wr.drew.frozen? _ = _ at hfj
    go_wp2
    refine qxA (n := 16) (S := fun w' => w'.cell? ⟨B, j, none⟩ = some (.int .u8 y) ∧ w'.cell? ⟨B, i, none⟩ = some (.int .u8 x)) (ds := [13, 15]) #[false, false, false, false, false, false, false, false, false, false, false, false, false, false, false, false] (by kernel_rfl) rfl rfl ⟨hcj, hci⟩ (fun hHeld => ?_); refine qNA qn.tab3 qn.bits3 (fun HT_ HW_ => ?_)
    generalize wr.drew = wd at hci hcj hfi hfj HBD HBB hHeld ⊢
    refine pS (i := 0) (N := some 14) #[true, false, false, false, false, false, false, false, false, false, false, false, false, false, false, false] HT_ ?_
    refine pS (i := 1) (N := some 15) #[true, true, false, false, false, false, false, false, false, false, false, false, false, false, false, false] HT_ ?_
    refine pS (i := 2) (N := some 16) #[true, true, true, false, false, false, false, false, false, false, false, false, false, false, false, false] HT_ ?_
    refine pS (i := 3) (N := some 17) #[true, true, true, true, false, false, false, false, false, false, false, false, false, false, false, false] HT_ ?_
    refine pS (i := 4) (N := some 18) #[true, true, true, true, true, false, false, false, false, false, false, false, false, false, false, false] HT_ ?_
    refine pS (i := 5) (N := some 19) #[true, true, true, true, true, true, false, false, false, false, false, false, false, false, false, false] HT_ ?_
    refine pS (i := 6) (N := some 20) #[true, true, true, true, true, true, true, false, false, false, false, false, false, false, false, false] HT_ ?_
    refine pS (i := 8) (N := some 22) #[true, true, true, true, true, true, true, false, true, false, false, false, false, false, false, false] HT_ ?_
    refine pS (i := 9) (N := some 23) #[true, true, true, true, true, true, true, false, true, true, false, false, false, false, false, false] HT_ ?_
    refine pS (i := 10) (N := some 24) #[true, true, true, true, true, true, true, false, true, true, true, false, false, false, false, false] HT_ ?_
    refine tS (i := 7) (N := some 21) #[true, true, true, true, true, true, true, true, true, true, true, false, false, false, false, false] HT_ HW_ hHeld ?_
    refine tS (i := 11) (N := some 25) #[true, true, true, true, true, true, true, true, true, true, true, true, false, false, false, false] HT_ HW_ hHeld ?_
    refine pS (i := 12) (N := some 26) #[true, true, true, true, true, true, true, true, true, true, true, true, true, false, false, false] HT_ ?_
    refine last_ (i := 13) (N := none) #[true, true, true, true, true, true, true, true, true, true, true, true, true, true, false, false] rfl rfl (qjA HT_.out (by kernel_rfl)) (by decide) (fun K hK => ?_)
    refine skip_ (w1 := ?_) (by rfl) rfl ?_ ?_
    rotate_left
    ·go_simp
     rfl
    refine hK.out _ _ ?_
    clear hK K
    refine pS (i := 14) (N := some 27) #[true, true, true, true, true, true, true, true, true, true, true, true, true, true, true, false] HT_ ?_
    refine last_ (i := 15) (N := none) #[true, true, true, true, true, true, true, true, true, true, true, true, true, true, true, true] rfl rfl (qjA HT_.out (by kernel_rfl)) (by decide) (fun K hK => ?_)
    refine skip_ (w1 := ?_) (by rfl) rfl ?_ ?_
    rotate_left
    ·go_simp
     rfl
    refine hK.out _ _ ?_
    clear hK K
    refine done_ (qvA HT_.out (by kernel_rfl)) ?_
    try go_wp2
    go_roundg (n - (i + 1))
    case measure => omega
    case rel => exact ⟨i + 1, j - 1, _, by go_num, by first | go_num | (rw [show ((j - 1 : Nat) : Int) = (j : Int) - 1 by omega]; first | rfl | go_num), by omega, by omega, Nat.le_refl _, ⟨(HBD.out.set_ i _).set_ j _⟩, HRV2, ⟨qe (qe HBB.out HGB.out) HGB.out⟩⟩
   ·go_wp2
    first | go_end0 | ((try simp only [Exit.inBlock, Exit.then]); refine bodyPost_ret (results_none rfl _ _ _) rfl ?_)
    exact ⟨rfl, ⟨cs, HBK.out, fun q hq => by rw [HRV.out q (by rw [HN.out]; exact hq), rvAt_end (by rw [HN.out]; exact hij) hlt hle (by rw [HN.out]; exact hq)]⟩, HB.out⟩
end Go.Proofs.YtdncpkppkafkpaaGreatDoor
namespace Go.Proofs.YtdncpkppkafkpaaGreatDoor.P
open Go.RowKit Go.Proofs.YtdncpkppkafkpaaGreatDoorW.PrintWords Go.Proofs.YtdncpkppkafkpaaGreatDoorW.PrintLast Go.Proofs.YtdncpkppkafkpaaGreatDoorW.PrintMore
attribute [local go_sem] qw qu qHA qGA qj qi qv qt
set_option linter.unusedVariables false
set_option linter.unusedSimpArgs false
def qL.l0 : Nat → List ByteArray → Int → Int → Option (List ByteArray)
 | 0, _, _, _ => none
 | k + 1, x0, x2, x3 => if x2 < x3 then (if 0 ≤ x3 then (if x3 < (x0.length : Int) then (if 0 ≤ x2 then (if x2 < (x0.length : Int) then (qL.l0 k ((x0.set (x2 : Int).toNat (rdOf ByteArray.empty x0 x3)).set (x3 : Int).toNat (rdOf ByteArray.empty x0 x2)) (wrap64 (x2 + 1)) (wrap64 (x3 - 1))) else (none)) else (none)) else (none)) else (none)) else (some x0)
def qL.f (k : Nat) (l0 : List ByteArray) : Option (List ByteArray) := qL.l0 k l0 0 (wrap64 ((l0.length : Int) - 1))
def qL.T3 : Bool × List (List Nat × List Nat) := (true, [([], []), ([], []), ([], []), ([], []), ([], []), ([], []), ([4, 5], [4, 5]), ([6], [6]), ([], []), ([], []), ([8, 9], [8, 9]), ([10], [10]), ([0, 1, 0, 1, 4, 5, 6, 7, 11], [0, 1]), ([12, 7, 0, 1, 4, 5, 6, 7, 11], [7, 12]), ([2, 3, 0, 1, 2, 3, 4, 5, 6, 7, 8, 9, 10, 11, 12, 13], [2, 3]), ([14, 11, 13, 0, 1, 2, 3, 4, 5, 6, 7, 8, 9, 10, 11, 12, 13], [11, 14])])
def qL.B3 : List Nat := [0, 0, 0, 0, 0, 0, 48, 112, 0, 0, 768, 1792, 4083, 8179, 16383, 32767]
theorem qL.tab3 : rtab .any (opsOf Tryz.f18 3) = qL.T3 := by kernel_rfl
theorem qL.bits3 : waitsOk qL.T3.2 qL.B3 = true := by kernel_rfl
set_option maxHeartbeats 8000000 in
set_option maxRecDepth 100000 in
theorem qL.calls (k : Nat) (P0_ : Nat → Prop) (u9000_ : Value) (l0 : List ByteArray) (r : List ByteArray) (w0 w : World) (hB : Below w0.heap.size w0 w) (ho0 : Kd.R Kd.string 9 w w0.heap.size P0_ u9000_ l0) (h : qL.f k l0 = some r) :
  Calls Tryz.prog 18 #[u9000_] w fun e w' => e = .returned (.tuple #[]) ∧ Kd.R Kd.string 9 w' w0.heap.size (fun k_ => (P0_ k_ ∨ w.heap.size ≤ k_)) u9000_ r ∧ Below w0.heap.size w0 w' ∧ Kept w w' (fun k_ => P0_ k_) := by
 have HO0 := Aside0.mk (show Kd.R Kd.string 9 w w0.heap.size (fun k_ => (P0_ k_ ∨ w.heap.size ≤ k_)) u9000_ l0 from Kd.qf ho0 (fun k_ hk => (.inl hk)))
 have HK := Aside0.mk (Kept.refl w (fun k_ => P0_ k_))
 have HW0 := Aside0.mk hB.size
 have HB := Aside0.mk hB
 clear hB
 have H : (qL.l0 k l0 0 (wrap64 ((l0.length : Int) - 1))) = some r := h
 clear h
 have H' := Aside0.mk H
 clear H
 obtain ⟨Ao2, co2, eo2⟩ := Kd.qp HO0.out
 subst eo2
 go_enter Tryz.func18, Tryz.ntmps18
 go_wp2
 go_loopg [2, 3] k (fun kq v2 v3 w' => ∃ (x0_1 : List ByteArray) (x2_1 : Int) (x3_1 : Int), v2 = .int .i64 x2_1 ∧ v3 = .int .i64 x3_1 ∧ Aside0 (qL.l0 kq x0_1 x2_1 x3_1 = some r) ∧ Aside0 (kq ≤ k) ∧ Aside0 (Kd.R Kd.string 9 w' w0.heap.size (fun k_ => (P0_ k_ ∨ w.heap.size ≤ k_)) (.slice Ao2 l0.length co2) x0_1) ∧ Aside0 (Kept w w' (fun k_ => P0_ k_)) ∧ Aside0 (Below w0.heap.size w0 w'))
 case atStart => exact ⟨(l0), (0), (wrap64 ((l0.length : Int) - 1)), (by first | rfl | (simp; done) | (simp [*]; done)), (by first | rfl | (simp; done) | (simp [*]; done)), H', ⟨Nat.le_refl _⟩, ⟨by (with_reducible repeat (first | apply Kd.qG | apply Kd.qH | apply Kd.qI)); exact HO0.out⟩, ⟨by repeat (first | (with_reducible first | exact HK.out | apply Kept.alloc | apply Kept.drewN | apply Kept.drew) | exact HK.out)⟩, ⟨bl⟩⟩
 case round =>
  clear H'
  try clear c1
  try clear p2
  obtain ⟨x0_1, x2_1, x3_1, rfl, rfl, HA, HK1, HO_0, HK, HB⟩ := hrel
  have hl0_1 := (Kd.qQ HO_0.out).1
  rw [hl0_1] at HO_0
  (try simp only [hl0_1])
  cases gk with
  | zero => exact absurd HA.out (by simp [qL.l0])
  | succ k1 =>
   have H := HA.out
   clear HA
   simp only [qL.l0] at H
   by_cases c3 : x2_1 < x3_1
   ·rw [if_pos c3] at H
    have c3b0 : decide (x2_1 < x3_1) = true := decide_eq_true c3
    clear c3
    by_cases c4 : 0 ≤ x3_1
    ·rw [if_pos c4] at H
     have c4b0 : decide (0 ≤ x3_1) = true := decide_eq_true c4
     clear c4
     by_cases c5 : x3_1 < (x0_1.length : Int)
     ·rw [if_pos c5] at H
      have c5b0 : decide (x3_1 < (x0_1.length : Int)) = true := decide_eq_true c5
      (try (have c5b0_hl0_1 := c5b0; simp only [hl0_1] at c5b0_hl0_1))
      clear c5
      by_cases c6 : 0 ≤ x2_1
      ·rw [if_pos c6] at H
       have c6b0 : decide (0 ≤ x2_1) = true := decide_eq_true c6
       clear c6
       by_cases c7 : x2_1 < (x0_1.length : Int)
       ·rw [if_pos c7] at H
        have c7b0 : decide (x2_1 < (x0_1.length : Int)) = true := decide_eq_true c7
        (try (have c7b0_hl0_1 := c7b0; simp only [hl0_1] at c7b0_hl0_1))
        clear c7
        obtain ⟨y508, hy508⟩ : ∃ y_ : List ByteArray, y_ = (x0_1.set (x2_1 : Int).toNat (rdOf ByteArray.empty x0_1 x3_1)) := ⟨_, rfl⟩
        replace H : (qL.l0 k1 (y508.set (x3_1 : Int).toNat (rdOf ByteArray.empty x0_1 x2_1)) (wrap64 (x2_1 + 1)) (wrap64 (x3_1 - 1))) = some r := by first | (rw [hy508]; with_reducible exact H) | (have H2_ := (Option.bind_some _ _).symm.trans H; rw [hy508]; with_reducible exact H2_) | (have H2_ := (Option.bind_some _ _).symm.trans H; with_reducible exact H2_) | with_reducible exact H | (rw [hy508]; exact H) | exact H
        have Ny508 := Aside0.mk hy508
        clear hy508
        obtain ⟨y509, hy509⟩ : ∃ y_ : List ByteArray, y_ = (y508.set (x3_1 : Int).toNat (rdOf ByteArray.empty x0_1 x2_1)) := ⟨_, rfl⟩
        replace H : (qL.l0 k1 y509 (wrap64 (x2_1 + 1)) (wrap64 (x3_1 - 1))) = some r := by first | (rw [hy509]; with_reducible exact H) | (have H2_ := (Option.bind_some _ _).symm.trans H; rw [hy509]; with_reducible exact H2_) | (have H2_ := (Option.bind_some _ _).symm.trans H; with_reducible exact H2_) | with_reducible exact H | (rw [hy509]; exact H) | exact H
        have Ny509 := Aside0.mk hy509
        clear hy509
        have H' := Aside0.mk H
        clear H
        try go_wp2
        have n0_ := Aside0.mk (Kd.qI HO_0.out)
        have n1_ := Aside0.mk (Kept.drew HK.out)
        have n2_ := Aside0.mk (qh HB.out)
        clear HO_0
        clear HK
        clear HB
        have HO_0 := n0_
        have HK := n1_
        have HB := n2_
        clear n0_ n1_ n2_
        have p506 : 0 ≤ (x3_1 : Int) := of_decide_eq_true (by first | (with_reducible assumption) | assumption)
        have q506 : x3_1 < (x0_1.length : Int) := of_decide_eq_true (by first | (with_reducible assumption) | assumption)
        obtain ⟨ad506, e506, hx506_0⟩ := Kd.qWB (Kd.qQ HO_0.out).2.2 x3_1 p506 q506
        cases e506
        replace p506 := eq_true p506
        replace q506 := eq_true q506
        have p507 : 0 ≤ (x2_1 : Int) := of_decide_eq_true (by first | (with_reducible assumption) | assumption)
        have q507 : x2_1 < (x0_1.length : Int) := of_decide_eq_true (by first | (with_reducible assumption) | assumption)
        obtain ⟨ad507, e507, hx507_0⟩ := Kd.qWB (Kd.qQ HO_0.out).2.2 x2_1 p507 q507
        obtain rfl : ad506 = ad507 := (by injection e507)
        replace p507 := eq_true p507
        replace q507 := eq_true q507
        have p8 : 0 ≤ (x2_1 : Int) := of_decide_eq_true (by first | (with_reducible assumption) | assumption)
        have q8 : (x2_1 : Int) < ((x0_1.length : Int) : Int) := of_decide_eq_true (by first | (with_reducible assumption) | assumption)
        obtain ⟨go8, co8, eo8, gb8, gl8, cl8, HG8⟩ := Kd.qkB HO_0.out (by omega)
        (first | cases eo8 | (injection eo8 with ea_ en_ ec_; (first | subst ea_ | (injection ea_ with ea_; subst ea_)); subst ec_; clear en_))
        have GB8 := Aside0.mk gb8
        have GG8 := Aside0.mk HG8
        clear gb8 gl8 HG8
        have HMgo8 := Aside0.mk (show (P0_ go8 ∨ w.heap.size ≤ go8) from (HO_0.out.1 _ rfl))
        (first | simp only [ql] at hx506_0 | skip)
        (first | simp only [ql] at hx507_0 | skip)
        obtain ⟨hx8_0, hf8_0⟩ := Kd.qhA (⟨#[]⟩ : ByteArray) HO_0.out (x2_1 : Int) p8 q8
        replace p8 := eq_true p8
        replace q8 := eq_true q8
        have HP11 := Kd.qrC HO_0.out (x2_1 : Int) (rdOf ByteArray.empty x0_1 x3_1)
        rw [← Ny508.out] at HP11
        have HQ11 := Aside0.mk HP11
        clear HP11
        have p9 : 0 ≤ (x3_1 : Int) := of_decide_eq_true (by first | (with_reducible assumption) | assumption)
        have q9 : (x3_1 : Int) < ((x0_1.length : Int) : Int) := of_decide_eq_true (by first | (with_reducible assumption) | assumption)
        obtain ⟨hx9_0, hf9_0⟩ := Kd.qhA (⟨#[]⟩ : ByteArray) HQ11.out (x3_1 : Int) p9 q9
        replace p9 := eq_true p9
        replace q9 := eq_true q9
        have HP12 := Kd.qrC HQ11.out (x3_1 : Int) (rdOf ByteArray.empty x0_1 x2_1)
        rw [← Ny509.out] at HP12
        have HQ12 := Aside0.mk HP12
        clear HP12
        refine qxA (n := 16) (S := fun w' => w'.cell? ⟨go8, (x3_1).toNat, none⟩ = some (.string (rdOf ByteArray.empty x0_1 x3_1)) ∧ w'.cell? ⟨go8, (x2_1).toNat, none⟩ = some (.string (rdOf ByteArray.empty x0_1 x2_1))) (ds := [13, 15]) #[false, false, false, false, false, false, false, false, false, false, false, false, false, false, false, false] (by kernel_rfl) rfl rfl ⟨hx506_0, hx507_0⟩ (fun hHeld => ?_); refine qNA qL.tab3 qL.bits3 (fun HT_ HW_ => ?_)
        generalize wr.drew = w10 at HO_0 HK HB GG8 HQ11 HQ12 hf8_0 hf9_0 hx506_0 hx507_0 hx8_0 hx9_0 hHeld ⊢
        refine pS (i := 0) (N := some 14) #[true, false, false, false, false, false, false, false, false, false, false, false, false, false, false, false] HT_ ?_
        refine pS (i := 1) (N := some 15) #[true, true, false, false, false, false, false, false, false, false, false, false, false, false, false, false] HT_ ?_
        refine pS (i := 2) (N := some 16) #[true, true, true, false, false, false, false, false, false, false, false, false, false, false, false, false] HT_ ?_
        refine pS (i := 3) (N := some 17) #[true, true, true, true, false, false, false, false, false, false, false, false, false, false, false, false] HT_ ?_
        refine pS (i := 4) (N := some 18) #[true, true, true, true, true, false, false, false, false, false, false, false, false, false, false, false] HT_ ?_
        refine pS (i := 5) (N := some 19) #[true, true, true, true, true, true, false, false, false, false, false, false, false, false, false, false] HT_ ?_
        refine pS (i := 6) (N := some 20) #[true, true, true, true, true, true, true, false, false, false, false, false, false, false, false, false] HT_ ?_
        refine pS (i := 8) (N := some 22) #[true, true, true, true, true, true, true, false, true, false, false, false, false, false, false, false] HT_ ?_
        refine pS (i := 9) (N := some 23) #[true, true, true, true, true, true, true, false, true, true, false, false, false, false, false, false] HT_ ?_
        refine pS (i := 10) (N := some 24) #[true, true, true, true, true, true, true, false, true, true, true, false, false, false, false, false] HT_ ?_
        refine tS (i := 7) (N := some 21) #[true, true, true, true, true, true, true, true, true, true, true, false, false, false, false, false] HT_ HW_ hHeld ?_
        refine tS (i := 11) (N := some 25) #[true, true, true, true, true, true, true, true, true, true, true, true, false, false, false, false] HT_ HW_ hHeld ?_
        refine pS (i := 12) (N := some 26) #[true, true, true, true, true, true, true, true, true, true, true, true, true, false, false, false] HT_ ?_
        refine last_ (i := 13) (N := none) #[true, true, true, true, true, true, true, true, true, true, true, true, true, true, false, false] rfl rfl (qjA HT_.out (by kernel_rfl)) (by decide) (fun K hK => ?_)
        refine skip_ (w1 := ?_) (by rfl) rfl ?_ ?_
        rotate_left
        ·go_simp
         rfl
        refine hK.out _ _ ?_
        clear hK K
        refine pS (i := 14) (N := some 27) #[true, true, true, true, true, true, true, true, true, true, true, true, true, true, true, false] HT_ ?_
        refine last_ (i := 15) (N := none) #[true, true, true, true, true, true, true, true, true, true, true, true, true, true, true, true] rfl rfl (qjA HT_.out (by kernel_rfl)) (by decide) (fun K hK => ?_)
        refine skip_ (w1 := ?_) (by rfl) rfl ?_ ?_
        rotate_left
        ·go_simp
         rfl
        refine hK.out _ _ ?_
        clear hK K
        refine done_ (qvA HT_.out (by kernel_rfl)) ?_
        try go_wp2
        (try simp only [← hl0_1])
        go_roundg k1
        case measure => have := HK1.out; omega
        case rel => exact ⟨(y509), (wrap64 (x2_1 + 1)), (wrap64 (x3_1 - 1)), (by first | rfl | (simp; done) | (simp [*]; done)), (by first | rfl | (simp; done) | (simp [*]; done)), H', ⟨by have := HK1.out; omega⟩, ⟨by (try simp only [hl0_1]); (with_reducible repeat (first | apply Kd.qG | apply Kd.qH | apply Kd.qI)); exact HQ12.out⟩, ⟨by repeat (first | (with_reducible first | exact HK.out | apply Kept.alloc | apply Kept.drewN | apply Kept.drew | refine Kept.setCell ?_ HMgo8.out _ | refine Kept.setCell ?_ HMgo8.out _) | exact HK.out)⟩, ⟨by repeat (first | (with_reducible first | exact HB.out | apply qMA | apply qgA | apply qh | refine qe ?_ GB8.out | refine qe ?_ GB8.out) | exact HB.out)⟩⟩
       ·rw [if_neg c7] at H
        exact absurd H (by simp)
      ·rw [if_neg c6] at H
       exact absurd H (by simp)
     ·rw [if_neg c5] at H
      exact absurd H (by simp)
    ·rw [if_neg c4] at H
     exact absurd H (by simp)
   ·rw [if_neg c3] at H
    have c3b0 : decide (x2_1 < x3_1) = false := decide_eq_false c3
    clear c3
    obtain rfl := Option.some.inj H
    go_wp2
    first | go_end0 | ((try simp only [Exit.inBlock, Exit.then]); refine bodyPost_ret (results_none rfl _ _ _) rfl ?_)
    exact ⟨by first | rfl | (simp [qN, qM] <;> rfl) | (simp [*, qN, qM] <;> rfl), (by first | exact (by (with_reducible repeat (first | apply Kd.qG | apply Kd.qH | apply Kd.qI)); exact HO_0.out) | (simp only [hl0_1]; exact (by (with_reducible repeat (first | apply Kd.qG | apply Kd.qH | apply Kd.qI)); exact HO_0.out))), bl, by repeat (first | (with_reducible first | exact HK.out | apply Kept.alloc | apply Kept.drewN | apply Kept.drew) | exact HK.out)⟩
end Go.Proofs.YtdncpkppkafkpaaGreatDoor.P
namespace Go.Proofs.YtdncpkppkafkpaaGreatDoor
open Go.RowKit Go.Proofs.YtdncpkppkafkpaaGreatDoor.P Go.Proofs.YtdncpkppkafkpaaGreatDoorW.PrintWords Go.Proofs.YtdncpkppkafkpaaGreatDoorW.PrintLast
set_option linter.unusedVariables false
set_option linter.unusedSimpArgs false
def rsAt (L : List ByteArray) (i q : Nat) : Option ByteArray := if q < i ∨ L.length ≤ q + i then L[L.length - 1 - q]? else L[q]?
theorem rdS (l : List ByteArray) (i : Nat) (x : ByteArray) (h : l[i]? = some x) : rdOf ByteArray.empty l (i : Int) = x := by
 unfold rdOf
 rw [Int.toNat_natCast, List.getD_eq_getElem?_getD, h]; rfl
theorem rev_end {L X : List ByteArray} {i j : Nat} (hn : i + j + 1 = L.length) (hX : X.length = L.length) (hx : ∀ q, q < L.length → X[q]? = rsAt L i q) (hl : ¬ i < j) (hij : i ≤ j + 1) : X = L.reverse := by
 apply List.ext_getElem?
 intro q
 rcases Nat.lt_or_ge q L.length with hq | hq
 ·rw [hx q hq, List.getElem?_reverse hq]
  unfold rsAt
  by_cases h1 : q < i ∨ L.length ≤ q + i
  ·rw [if_pos h1]
  ·rw [if_neg h1, show L.length - 1 - q = q by omega]
 ·rw [List.getElem?_eq_none (by omega), List.getElem?_eq_none (by rw [List.length_reverse]; omega)]
theorem revS_loop (L : List ByteArray) (hL : L.length ≤ 4611686018427387904) (d : Nat) : ∀ (i j : Nat) (X : List ByteArray), i + j + 1 = L.length → i ≤ j + 1 → X.length = L.length → (∀ q, q < L.length → X[q]? = rsAt L i q) → L.length - i ≤ d →
  Ev (fun k => qL.l0 k X (i : Int) (j : Int)) L.reverse := by
 induction d with
 | zero => intro i j X hn hij hX hx hd; omega
 | succ d ih =>
  intro i j X hn hij hX hx hd
  refine Ev.step (f := fun k => _) (fun k => by rw [qL.l0]) ?_
  by_cases hlt : i < j
  ·have ei : ∃ x, X[i]? = some x := ⟨_, List.getElem?_eq_getElem (by omega)⟩
   have ej : ∃ y, X[j]? = some y := ⟨_, List.getElem?_eq_getElem (by omega)⟩
   obtain ⟨x, hxi⟩ := ei
   obtain ⟨y, hyj⟩ := ej
   have w1 : wrap64 ((i : Int) + 1) = ((i + 1 : Nat) : Int) := by unfold wrap64; omega
   have w2 : wrap64 ((j : Int) - 1) = ((j - 1 : Nat) : Int) := by unfold wrap64; omega
   have hLi : L[i]? = some x := by have := hx i (by omega); rw [hxi] at this; unfold rsAt at this; rw [if_neg (by omega)] at this; exact this.symm
   have hLj : L[j]? = some y := by have := hx j (by omega); rw [hyj] at this; unfold rsAt at this; rw [if_neg (by omega)] at this; exact this.symm
   have ih2 := ih (i + 1) (j - 1) ((X.set i y).set j x) (by omega) (by omega) (by rw [List.length_set, List.length_set]; exact hX) (fun q hq => by
    by_cases e2 : q = j
    ·subst e2
     rw [List.getElem?_set_self (by rw [List.length_set]; omega)]
     unfold rsAt
     rw [if_pos (by omega), show L.length - 1 - q = i by omega, hLi]
    ·rw [List.getElem?_set_ne (by omega)]
     by_cases e1 : q = i
     ·subst e1
      rw [List.getElem?_set_self (by omega)]
      unfold rsAt
      rw [if_pos (by omega), show L.length - 1 - q = j by omega, hLj]
     ·rw [List.getElem?_set_ne (by omega), hx q hq]
      unfold rsAt
      by_cases h1 : q < i ∨ L.length ≤ q + i
      ·rw [if_pos h1, if_pos (by omega)]
      ·rw [if_neg h1, if_neg (by omega)]) (by omega)
   rw [rdS X i x hxi, rdS X j y hyj, w1, w2, Int.toNat_natCast, Int.toNat_natCast]
   exact Ev.pos (by omega) (Ev.pos (by omega) (Ev.pos (by omega) (Ev.pos (by omega) (Ev.pos (by omega) ih2))))
  ·refine Ev.neg (by omega) (Ev.some_ ?_)
   exact rev_end hn hX hx hlt hij
theorem revS_ev (L : List ByteArray) (h0 : 0 < L.length) (hL : L.length ≤ 4611686018427387904) : Ev (fun k => qL.f k L) L.reverse := by
 unfold qL.f
 have w1 : wrap64 ((L.length : Int) - 1) = ((L.length - 1 : Nat) : Int) := by unfold wrap64; omega
 rw [w1]
 exact revS_loop L hL L.length 0 (L.length - 1) L (by omega) (by omega) rfl (fun q hq => by unfold rsAt; rw [if_neg (by omega)]) (by omega)
def numsB (s : ByteArray) : List Int := s.data.toList.map fun c => (c.toNat : Int)
theorem numsB_len (s : ByteArray) : (numsB s).length = s.size := by rw [numsB, List.length_map, Array.length_toList]; rfl
def rvB (s : ByteArray) : ByteArray := ⟨s.data.toList.reverse.toArray⟩
theorem rvB_size (s : ByteArray) : (rvB s).size = s.size := by
 show s.data.toList.reverse.toArray.size = s.size
 rw [List.size_toArray, List.length_reverse, Array.length_toList]; rfl
theorem rvB_str (s : ByteArray) : strOfNums (numsB s).reverse = rvB s := by
 unfold strOfNums numsB rvB
 rw [← List.map_reverse, List.map_map]
 congr 2
 conv => rhs; rw [← List.map_id s.data.toList.reverse]
 refine List.map_congr_left fun c _ => ?_
 simp
theorem bytes_cells (w : World) (e : TypeId) (s : ByteArray) : s.size ≤ (Lib.bytesCells w e s).size ∧ ∀ i, i < s.size → (Lib.bytesCells w e s)[i]? = some (.int .u8 ((numsB s).getD i 0)) := by
 have hl : (s.data.map fun b => Value.int .u8 (b.toNat : Int)).size = s.size := by rw [Array.size_map]; rfl
 refine ⟨by simp only [Lib.bytesCells, Array.size_append, hl]; omega, fun i hi => ?_⟩
 unfold Lib.bytesCells
 have hi' : i < s.data.size := hi
 rw [Array.getElem?_append_left (by simpa using hi')]
 simp [numsB, List.getD, Array.getElem?_eq_getElem hi']
def mirRows (s : ByteArray) : List ByteArray := (rowsOf6 (rvB s)).reverse
def mirW (s : ByteArray) : ByteArray := ⟨(Lib.join ((mirRows s).map (·.data.toList)) [47]).toArray⟩
theorem lens_le (m : Nat) : ∀ xs : List (List UInt8), (∀ x ∈ xs, x.length ≤ m) → Lib.lens xs ≤ xs.length * m
 | [], _ => by simp [Lib.lens]
 | x :: xs, h => by
  have h1 := h x List.mem_cons_self
  have h2 := lens_le m xs fun y hy => h y (List.mem_cons_of_mem _ hy)
  unfold Lib.lens at h2 ⊢
  rw [List.map_cons, List.sum_cons, List.length_cons, Nat.add_mul, Nat.one_mul]
  omega
theorem join_bound (xs : List (List UInt8)) (m n : Nat) (hm : ∀ x ∈ xs, x.length ≤ m) (hn : xs.length ≤ n) : (Lib.join xs [47]).length ≤ n + n * m := by
 cases xs with
 | nil => simp [Lib.join_nil]
 | cons x r =>
  rw [Lib.join_length]
  have h := lens_le m (x :: r) hm
  have h2 : (x :: r).length * m ≤ n * m := Nat.mul_le_mul_right m hn
  rw [List.length_cons] at hn
  rw [List.length_singleton, Nat.one_mul]
  exact Nat.add_le_add (Nat.le_of_succ_le hn) (Nat.le_trans h h2)
theorem joinOwn (xs : List ByteArray) (g c n base : Nat) (ok : Nat → Prop) (w : World) (hx : xs.length ≤ 2000000) (hm : ∀ x ∈ xs, x.size ≤ 1000000) (R : Kd.R Kd.string 9 w base ok (.slice (some ⟨g, 0, none⟩) n c) xs) :
  Calls Tryz.prog 19 #[.slice (some ⟨g, 0, none⟩) n c, .string ⟨#[47]⟩] w fun e w' => e = .returned (.string ⟨(Lib.join (xs.map (·.data.toList)) [47]).toArray⟩) ∧ Below w.heap.size w w' := by
 obtain ⟨rfl, hc, _⟩ := Kd.qQ R
 refine Tryz.strings_Join g 0 c xs ⟨#[47]⟩ w (fun j x hj => ?_) (Kd.R_lt R g rfl) (by omega) hc ?_
 ·have hjl := (List.getElem?_eq_some_iff.1 hj).1
  have := (Kd.qhA ByteArray.empty R (j : Int) (by omega) (by omega)).1
  rw [rdS xs j x hj, Int.toNat_natCast] at this
  rw [Nat.zero_add]
  exact this
 ·have := join_bound (xs.map (·.data.toList)) 1000000 2000000 (fun y hy => by
   obtain ⟨x, hx, rfl⟩ := List.mem_map.1 hy
   rw [Array.length_toList]
   exact hm x hx) (by rw [List.length_map]; exact hx)
  exact Nat.le_trans this (by decide)
namespace P
def qJA.f (a0 : ByteArray) : Option ByteArray := if a0.size ≤ 1000000 then some (mirW a0) else none
set_option maxHeartbeats 4000000 in
set_option maxRecDepth 100000 in
theorem qJA.calls (a0 : ByteArray) (r : ByteArray) (w : World) (hL : Laid w) (h : qJA.f a0 = some r) :
  Calls Tryz.prog 10 #[.string a0] w fun e w' => e = .returned (.string r) ∧ Below w.heap.size w w' := by
 unfold qJA.f at h
 split at h
 case isFalse => cases h
 rename_i hs
 obtain rfl := Option.some.inj h
 clear h
 have hl := numsB_len a0
 have kb := fun W => print_bytes (P := Tryz.prog) 9 25 5 Tryz.underlying9 Tryz.underlying25 Tryz.underlying5 a0 W
 have hw0 : Below w.heap.size w (Lib.bytesWorld w 5 a0) := bytes_below (Below.refl _ _) (Nat.le_refl _) _ _
 obtain ⟨hbs, hbc⟩ := bytes_cells w 5 a0
 have HR : ∀ cap, Calls Tryz.prog 16 #[.slice (some ⟨w.heap.size, 0, none⟩) a0.size cap] (Lib.bytesWorld w 5 a0) fun e w' => e = .returned (.tuple #[]) ∧ (∃ cs, Blk w' w.heap.size 5 cs ((Lib.bytesCells w 5 a0).size, (Lib.bytesCells w 5 a0).size + 1) ∧ ∀ q, q < a0.size → cs[q]? = some (.int .u8 ((numsB a0).reverse.getD q 0))) ∧ Below w.heap.size w w' := by
  intro cap
  have := revB_calls (numsB a0) (Nat.le_trans (Nat.le_of_eq hl) hs) w.heap.size cap _ _ w _ hw0 (Nat.le_refl _) (Blk.bytes w 5 a0) (by rw [hl]; exact hbs) (fun q hq => hbc q (Nat.lt_of_lt_of_le hq (Nat.le_of_eq hl)))
  rw [hl] at this
  exact this
 have HRH := Lib.hid HR
 have HLD := Lib.hid hL
 obtain ⟨S, hS⟩ : ∃ S, rvB a0 = S := ⟨_, rfl⟩
 have hSs : S.size = a0.size := by rw [← hS]; exact rvB_size a0
 have hrs : strOfNums (numsB a0).reverse = S := (rvB_str a0).trans hS
 have hr6 : (rowsOf6 S).length ≤ 1000001 := by
  have h1 := qRC S
  have h2 := Lib.countB_le ⟨#[47]⟩ (by decide) S.size S (Nat.le_refl _)
  rw [h1]
  exact Nat.succ_le_succ (Nat.le_trans h2 (Nat.le_trans (Nat.le_of_eq hSs) hs))
 have hr0 : 0 < (rowsOf6 S).length := by rw [qRC]; exact Nat.succ_pos _
 have hrz : ∀ r ∈ rowsOf6 S, r.size ≤ 1000000 := fun r hr => Nat.le_trans (split_size S r hr) (Nat.le_trans (Nat.le_of_eq hSs) hs)
 have HSP := Lib.hid (show strings_Split.f S ⟨#[47]⟩ = some (rowsOf6 S) from if_pos ⟨Nat.lt_of_le_of_lt (Nat.le_of_eq hSs) (Nat.lt_of_le_of_lt hs (by decide)), by decide⟩)
 have hmr : mirW a0 = ⟨(Lib.join ((rowsOf6 S).reverse.map (·.data.toList)) [47]).toArray⟩ := by unfold mirW mirRows; rw [hS]
 rw [hmr]
 generalize rowsOf6 S = rows at *
 generalize hMJ : (⟨(Lib.join (rows.reverse.map (·.data.toList)) [47]).toArray⟩ : ByteArray) = J
 have HMJ := Lib.hid hMJ
 clear hMJ
 obtain ⟨k, hk⟩ := revS_ev rows hr0 (Nat.le_trans hr6 (by decide))
 have HK := Lib.hid (hk k (Nat.le_refl _))
 have HRZ := Lib.hid hrz
 have HR0 := Lib.hid hr0
 have HR6 := Lib.hid hr6
 have HRS := Lib.hid hrs
 have HNL := Lib.hid hl
 clear hw0 hbs hbc HR hL hS hSs hrs hr6 hr0 hrz hmr hk hl
 go_enter Tryz.func10, Tryz.ntmps10
 go_wp2_with (first
  | (go_at_call 16; refine (HRH.out _).mono ?_; rintro e w1 ⟨rfl, ⟨cs, hblk, hcs⟩, hb1⟩; have hcv := run_convert_bytes_arg (P := Tryz.prog) w1 25 5 Tryz.underlying25 Tryz.underlying5 w.heap.size 0 a0.size (grownCap w a0.size 0 5) (numsB a0).reverse (by rw [List.length_reverse]; exact HNL.out) (fun i hi => by rw [Nat.zero_add, hblk.cell i]; exact hcs i hi) 9 Tryz.underlying9; rw [HRS.out] at hcv; have HB1 := Lib.hid hb1; clear hblk hcs hb1)
  | (go_at_call 17; refine (strings_Split.calls S ⟨#[47]⟩ _ _ (Laid.below HLD.out HB1.out) HSP.out).mono ?_; rintro e w2 ⟨v0, rfl, R1, B2⟩; have HB2 := Lib.hid (qSA HB1.out (qa HB1.out) B2); have HO := Lib.hid (Kd.qAA R1 (qa HB1.out)); clear R1 B2 hcv)
  | (go_at_call 18; refine (qL.calls k (fun _ => True) v0 rows rows.reverse w _ HB2.out HO.out HK.out).mono ?_; rintro e w3 ⟨rfl, R3, B3, _⟩; obtain ⟨g, c, rfl, hge, hlt, _⟩ := Kd.qkB R3 (by rw [List.length_reverse]; exact HR0.out); have hj_ := joinOwn rows.reverse g c _ w.heap.size _ w3 (by rw [List.length_reverse]; exact Nat.le_trans HR6.out (by decide)) (fun x hx => HRZ.out x (List.mem_reverse.1 hx)) R3; rw [HMJ.out, List.length_reverse] at hj_; have HJ := Lib.hid hj_; clear hj_; have HB3 := Lib.hid B3; clear R3 B3 hge hlt)
  | (go_at_call 19; refine HJ.out.mono ?_; rintro e w4 ⟨rfl, B4⟩; have HB4 := Lib.hid (qSA HB3.out (qa HB3.out) B4); clear B4))
 go_ret
 exact ⟨rfl, HB4.out⟩
end P
end Go.Proofs.YtdncpkppkafkpaaGreatDoor
namespace Go.Proofs.YtdncpkppkafkpaaGreatDoor.P
open Go.RowKit Go.Proofs.YtdncpkppkafkpaaGreatDoorW.PrintWords Go.Proofs.YtdncpkppkafkpaaGreatDoorW.PrintLast Go.Proofs.YtdncpkppkafkpaaGreatDoorW.PrintMore
attribute [local go_sem] qw qu qHA qGA qj qi qv qt
set_option linter.unusedVariables false
set_option linter.unusedSimpArgs false
def qOA.f (k : Nat) (a0 : ByteArray) : Option (ByteArray × Bool) := (qAB.f k a0).bind fun t511 => (if t511 = true then ((qJA.f a0).bind fun t512 => (some (t512, true))) else (some ((⟨#[]⟩ : ByteArray), false)))
set_option maxHeartbeats 8000000 in
set_option maxRecDepth 100000 in
theorem qOA.calls (k : Nat) (a0 : ByteArray) (r1 : ByteArray) (r2 : Bool) (w : World) (hL : Laid w) (h : qOA.f k a0 = some (r1, r2)) :
  Calls Tryz.prog 5 #[.string a0] w fun e w' => e = .returned (.tuple #[.string r1, .bool r2]) ∧ Below w.heap.size w w' := by
 have HLD := Aside0.mk hL
 clear hL
 have HB := Aside0.mk (Below.refl w.heap.size w)
 have H : ((qAB.f k a0).bind fun t511 => (if t511 = true then ((qJA.f a0).bind fun t512 => (some (t512, true))) else (some ((⟨#[]⟩ : ByteArray), false)))) = some (r1, r2) := h
 clear h
 replace H := Option.bind_eq_some_iff.mp H
 obtain ⟨t511, A20, H⟩ := H
 replace H : (if t511 = true then ((qJA.f a0).bind fun t512 => (some (t512, true))) else (some ((⟨#[]⟩ : ByteArray), false))) = some (r1, r2) := H
 have A2 := Aside0.mk A20
 clear A20
 by_cases c3 : t511 = true
 ·subst c3
  have H1 : ((qJA.f a0).bind fun t512 => (some (t512, true))) = some (r1, r2) := by rw [if_pos rfl] at H; exact H
  clear H
  have H := H1
  clear H1
  replace H := Option.bind_eq_some_iff.mp H
  obtain ⟨t512, A40, H⟩ := H
  replace H : (some (t512, true)) = some (r1, r2) := H
  have A4 := Aside0.mk A40
  clear A40
  simp only [Option.some.injEq, Prod.mk.injEq] at H
  obtain ⟨rfl, rfl⟩ := H
  go_enter Tryz.func5, Tryz.ntmps5
  go_wp2_with (first | ((with_reducible refine qb (f := 9) rfl ?_); refine qRA (some 5) rfl rfl Tryz.func9 (by kernel_rfl) rfl #[.string a0] rfl (by (try simp only [List.map_toArray, List.map_cons, List.map_nil]); first | done | rfl | (simp only [List.length_drop, List.length_take]; rfl)) ?_; (with_reducible refine (qAB.calls k a0 true _ ?side1 A2.out).mono ?_); (case side1 => first | (with_reducible exact HLD.out) | exact Laid.below HLD.out bl); rintro e w5 ⟨rfl, hb⟩; refine ⟨_, rfl, ?_⟩; have n0_ := Aside0.mk (qK bl hb); clear HB; have HB := n0_; clear n0_; (try clear hb); (try clear hb2); (try clear hk); (try clear hi)) | ((with_reducible refine qb (f := 10) rfl ?_); refine qRA (some 8) rfl rfl Tryz.func10 (by kernel_rfl) rfl #[.string a0] rfl (by (try simp only [List.map_toArray, List.map_cons, List.map_nil]); first | done | rfl | (simp only [List.length_drop, List.length_take]; rfl)) ?_; (with_reducible refine (qJA.calls a0 t512 _ ?side1 A4.out).mono ?_); (case side1 => first | (with_reducible exact HLD.out) | exact Laid.below HLD.out bl); rintro e w6 ⟨rfl, hb⟩; refine ⟨_, rfl, ?_⟩; have n0_ := Aside0.mk (qK bl hb); clear HB; have HB := n0_; clear n0_; (try clear hb); (try clear hb2); (try clear hk); (try clear hi)))
  go_ret2
  exact ⟨by first | rfl | (simp [qN, qM] <;> rfl) | (simp [*, qN, qM] <;> rfl), bl⟩
 ·replace c3 := Bool.eq_false_iff.mpr c3
  subst c3
  have H1 : (some ((⟨#[]⟩ : ByteArray), false)) = some (r1, r2) := by rw [if_neg (show ¬ (false = true) by decide)] at H; exact H
  clear H
  have H := H1
  clear H1
  simp only [Option.some.injEq, Prod.mk.injEq] at H
  obtain ⟨rfl, rfl⟩ := H
  go_enter Tryz.func5, Tryz.ntmps5
  go_wp2_with (first | ((with_reducible refine qb (f := 9) rfl ?_); refine qRA (some 5) rfl rfl Tryz.func9 (by kernel_rfl) rfl #[.string a0] rfl (by (try simp only [List.map_toArray, List.map_cons, List.map_nil]); first | done | rfl | (simp only [List.length_drop, List.length_take]; rfl)) ?_; (with_reducible refine (qAB.calls k a0 false _ ?side1 A2.out).mono ?_); (case side1 => first | (with_reducible exact HLD.out) | exact Laid.below HLD.out bl); rintro e w7 ⟨rfl, hb⟩; refine ⟨_, rfl, ?_⟩; have n0_ := Aside0.mk (qK bl hb); clear HB; have HB := n0_; clear n0_; (try clear hb); (try clear hb2); (try clear hk); (try clear hi)))
  go_ret2
  exact ⟨by first | rfl | (simp [qN, qM] <;> rfl) | (simp [*, qN, qM] <;> rfl), bl⟩
def qDA.f (k : Nat) (a0 : ByteArray) : Option (Bool) := if (a0.size : Int) > 1048576 then (some true) else ((qTA.f k a0).bind fun bt513 => ((qOA.f k a0).bind fun bt515 => (if bt515.1.toList = bt513.1.toList then (if (bt515.2 != bt513.2) = true then (some false) else (some true)) else (some false))))
set_option maxHeartbeats 8000000 in
set_option maxRecDepth 100000 in
theorem qDA.calls (k : Nat) (a0 : ByteArray) (r : Bool) (w : World) (hL : Laid w) (h : qDA.f k a0 = some r) :
  Calls Tryz.prog 3 #[.string a0] w fun e w' => e = .returned (.bool r) ∧ Below w.heap.size w w' := by
 have HLD := Aside0.mk hL
 clear hL
 have HB := Aside0.mk (Below.refl w.heap.size w)
 have H : (if (a0.size : Int) > 1048576 then (some true) else ((qTA.f k a0).bind fun bt513 => ((qOA.f k a0).bind fun bt515 => (if bt515.1.toList = bt513.1.toList then (if (bt515.2 != bt513.2) = true then (some false) else (some true)) else (some false))))) = some r := h
 clear h
 by_cases c2 : (a0.size : Int) > 1048576
 ·rw [if_pos c2] at H
  have c2b0 : decide (1048576 < (a0.size : Int)) = true := decide_eq_true c2
  have c2b1 : decide (1048576 < a0.size) = true := decide_eq_true (by omega)
  clear c2
  obtain rfl := Option.some.inj H
  go_enter Tryz.func3, Tryz.ntmps3
  go_wp2
  go_ret
  exact ⟨by first | rfl | (simp [qN, qM] <;> rfl) | (simp [*, qN, qM] <;> rfl), bl⟩
 ·rw [if_neg c2] at H
  have c2b0 : decide (1048576 < (a0.size : Int)) = false := decide_eq_false c2
  have c2b1 : decide (1048576 < a0.size) = false := decide_eq_false (by omega)
  clear c2
  replace H := Option.bind_eq_some_iff.mp H
  obtain ⟨⟨t513, t514⟩, A30, H⟩ := H
  replace H : ((qOA.f k a0).bind fun bt515 => (if bt515.1.toList = t513.toList then (if (bt515.2 != t514) = true then (some false) else (some true)) else (some false))) = some r := H
  have A3 := Aside0.mk A30
  clear A30
  replace H := Option.bind_eq_some_iff.mp H
  obtain ⟨⟨t515, t516⟩, A40, H⟩ := H
  replace H : (if t515.toList = t513.toList then (if (t516 != t514) = true then (some false) else (some true)) else (some false)) = some r := H
  have A4 := Aside0.mk A40
  clear A40
  by_cases c5 : t515.toList = t513.toList
  ·rw [if_pos c5] at H
   have c5b0 : (t515.toList == t513.toList) = true := beq_iff_eq.mpr c5
   have c5b1 : (t515.toList != t513.toList) = false := bne_eq_false_iff_eq.mpr c5
   clear c5
   by_cases c6 : (t516 != t514) = true
   ·rw [if_pos c6] at H
    have c6b0 : (t516 != t514) = true := c6
    (try (have c6b1 : decide (t516 = t514) = false := by simpa using c6))
    (try (have c6b2 : (t516 == t514) = false := by simpa using c6))
    (try (have c6b3 : ¬ (t516 = t514) := by simpa using c6))
    clear c6
    obtain rfl := Option.some.inj H
    go_enter Tryz.func3, Tryz.ntmps3
    go_wp2_with (first | ((with_reducible refine qb (f := 4) rfl ?_); refine qRA (some 12) rfl rfl Tryz.func4 (by kernel_rfl) rfl #[.string a0] rfl (by (try simp only [List.map_toArray, List.map_cons, List.map_nil]); first | done | rfl | (simp only [List.length_drop, List.length_take]; rfl)) ?_; (with_reducible refine (qTA.calls k a0 t513 t514 _ A3.out).mono ?_); rintro e w7 ⟨rfl, hb⟩; refine ⟨_, rfl, ?_⟩; have n0_ := Aside0.mk (qK bl hb); clear HB; have HB := n0_; clear n0_; (try clear hb); (try clear hb2); (try clear hk); (try clear hi)) | ((with_reducible refine qb (f := 5) rfl ?_); refine qRA (some 17) rfl rfl Tryz.func5 (by kernel_rfl) rfl #[.string a0] rfl (by (try simp only [List.map_toArray, List.map_cons, List.map_nil]); first | done | rfl | (simp only [List.length_drop, List.length_take]; rfl)) ?_; (with_reducible refine (qOA.calls k a0 t515 t516 _ ?side1 A4.out).mono ?_); (case side1 => first | (with_reducible exact HLD.out) | exact Laid.below HLD.out bl); rintro e w8 ⟨rfl, hb⟩; refine ⟨_, rfl, ?_⟩; have n0_ := Aside0.mk (qK bl hb); clear HB; have HB := n0_; clear n0_; (try clear hb); (try clear hb2); (try clear hk); (try clear hi)))
    go_ret
    exact ⟨by first | rfl | (simp [qN, qM] <;> rfl) | (simp [*, qN, qM] <;> rfl), bl⟩
   ·rw [if_neg c6] at H
    have c6b0 : (t516 != t514) = false := by simpa using c6
    (try (have c6b1 : decide (t516 = t514) = true := by simpa using c6))
    (try (have c6b2 : (t516 == t514) = true := by simpa using c6))
    clear c6
    obtain rfl := Option.some.inj H
    go_enter Tryz.func3, Tryz.ntmps3
    go_wp2_with (first | ((with_reducible refine qb (f := 4) rfl ?_); refine qRA (some 12) rfl rfl Tryz.func4 (by kernel_rfl) rfl #[.string a0] rfl (by (try simp only [List.map_toArray, List.map_cons, List.map_nil]); first | done | rfl | (simp only [List.length_drop, List.length_take]; rfl)) ?_; (with_reducible refine (qTA.calls k a0 t513 t514 _ A3.out).mono ?_); rintro e w9 ⟨rfl, hb⟩; refine ⟨_, rfl, ?_⟩; have n0_ := Aside0.mk (qK bl hb); clear HB; have HB := n0_; clear n0_; (try clear hb); (try clear hb2); (try clear hk); (try clear hi)) | ((with_reducible refine qb (f := 5) rfl ?_); refine qRA (some 17) rfl rfl Tryz.func5 (by kernel_rfl) rfl #[.string a0] rfl (by (try simp only [List.map_toArray, List.map_cons, List.map_nil]); first | done | rfl | (simp only [List.length_drop, List.length_take]; rfl)) ?_; (with_reducible refine (qOA.calls k a0 t515 t516 _ ?side1 A4.out).mono ?_); (case side1 => first | (with_reducible exact HLD.out) | exact Laid.below HLD.out bl); rintro e w10 ⟨rfl, hb⟩; refine ⟨_, rfl, ?_⟩; have n0_ := Aside0.mk (qK bl hb); clear HB; have HB := n0_; clear n0_; (try clear hb); (try clear hb2); (try clear hk); (try clear hi)))
    go_ret
    exact ⟨by first | rfl | (simp [qN, qM] <;> rfl) | (simp [*, qN, qM] <;> rfl), bl⟩
  ·rw [if_neg c5] at H
   have c5b0 : (t515.toList == t513.toList) = false := beq_eq_false_iff_ne.mpr c5
   have c5b1 : (t515.toList != t513.toList) = true := bne_iff_ne.mpr c5
   obtain rfl := Option.some.inj H
   go_enter Tryz.func3, Tryz.ntmps3
   go_wp2_with (first | ((with_reducible refine qb (f := 4) rfl ?_); refine qRA (some 12) rfl rfl Tryz.func4 (by kernel_rfl) rfl #[.string a0] rfl (by (try simp only [List.map_toArray, List.map_cons, List.map_nil]); first | done | rfl | (simp only [List.length_drop, List.length_take]; rfl)) ?_; (with_reducible refine (qTA.calls k a0 t513 t514 _ A3.out).mono ?_); rintro e w11 ⟨rfl, hb⟩; refine ⟨_, rfl, ?_⟩; have n0_ := Aside0.mk (qK bl hb); clear HB; have HB := n0_; clear n0_; (try clear hb); (try clear hb2); (try clear hk); (try clear hi)) | ((with_reducible refine qb (f := 5) rfl ?_); refine qRA (some 17) rfl rfl Tryz.func5 (by kernel_rfl) rfl #[.string a0] rfl (by (try simp only [List.map_toArray, List.map_cons, List.map_nil]); first | done | rfl | (simp only [List.length_drop, List.length_take]; rfl)) ?_; (with_reducible refine (qOA.calls k a0 t515 t516 _ ?side1 A4.out).mono ?_); (case side1 => first | (with_reducible exact HLD.out) | exact Laid.below HLD.out bl); rintro e w12 ⟨rfl, hb⟩; refine ⟨_, rfl, ?_⟩; have n0_ := Aside0.mk (qK bl hb); clear HB; have HB := n0_; clear n0_; (try clear hb); (try clear hb2); (try clear hk); (try clear hi)))
   go_ret
   exact ⟨by first | rfl | (simp [qN, qM] <;> rfl) | (simp [*, qN, qM] <;> rfl), bl⟩
def qDA.Pure : Prop := ∀ (a0 : ByteArray), a0.size ≤ 140737488351232 → ∃ k, qDA.f k a0 = some true
end Go.Proofs.YtdncpkppkafkpaaGreatDoor.P
namespace Go.Proofs.YtdncpkppkafkpaaGreatDoor
open Go.RowKit Go.Proofs.YtdncpkppkafkpaaGreatDoor.P Go.Proofs.YtdncpkppkafkpaaGreatDoorW.PrintWords Go.Proofs.YtdncpkppkafkpaaGreatDoorW.PrintLast
set_option linter.unusedVariables false
set_option linter.unusedSimpArgs false
theorem qKC (s : ByteArray) : s.data.toList.length = s.size := by rw [Array.length_toList]; rfl
theorem nr_bt (s : ByteArray) (i : Nat) (h : i < s.data.toList.length) : bt s (i : Int) = ((s.data.toList[i]).toNat : Int) := by
 have h' : i < s.size := by rw [← qKC]; exact h
 unfold bt
 rw [dif_pos (by simpa using h')]
 simp only [Int.toNat_natCast, Array.getElem_toList]
 rfl
theorem nr_u8 (c : UInt8) (n : Nat) (hn : n < 256) : ((c.toNat : Int) = (n : Int)) ↔ c = UInt8.ofNat n := by
 constructor
 ·intro h
  have : c.toNat = n := by omega
  rw [← this]; simp
 ·intro h
  subst h
  simp; omega
abbrev RdN := Int × Int × List Int × Bool
def badN : RdN := (0, 0, [], false)
def okN (c : UInt8) : Bool := decide (c = 46) || isDg c
def runN : List UInt8 → Nat → Nat → Nat → List Int → RdN
 | [], x, w, h, cs => if (0 < h ∧ x ≠ w) ∨ x = 0 then badN else ((x : Int), ((h + 1 : Nat) : Int), cs, true)
 | c :: r, x, w, h, cs =>
  if c = 47 then (if (0 < h ∧ x ≠ w) ∨ x = 0 then badN else runN r 0 x (h + 1) cs)
  else if okN c = true then runN r (x + 1) w h (cs ++ [(c.toNat : Int)])
  else badN
theorem nr_end (a : ByteArray) (ha : a.size ≤ 41) (w h : Nat) (cs : List Int) : Ev (fun k => qO.l0 k a false 0 ((a.size : Int) + 1) (w : Int) (h : Int) cs) ((w : Int), (h : Int), cs, true) := by
 refine Ev.step (f := fun k => _) (fun k => by rw [qO.l0]) ?_
 exact Ev.neg (by omega) (Ev.now _)
theorem nr_sep (a : ByteArray) (i x w h : Nat) (cs : List Int) (hx : x ≤ 100) (hh : h ≤ 100) (hi : i ≤ 100) (R : RdN)
  (hR : Ev (fun k => qO.l0 k a false 0 ((i : Int) + 1) (x : Int) ((h + 1 : Nat) : Int) cs) R) :
  Ev (fun k => qO.j1 k a false (x : Int) (i : Int) false (w : Int) (h : Int) cs) (if (0 < h ∧ x ≠ w) ∨ x = 0 then badN else R) := by
 have w1 : wrap64 ((i : Int) + 1) = (i : Int) + 1 := by unfold wrap64; omega
 have w2 : wrap64 ((h : Int) + 1) = ((h + 1 : Nat) : Int) := by unfold wrap64; omega
 refine Ev.step (f := fun k => _) (fun k => by rw [qO.j1]) ?_
 refine Ev.neg (by decide) ?_
 rw [w1, w2]
 by_cases h1 : 0 < h
 ·refine Ev.pos (by omega) ?_
  by_cases h2 : x = w
  ·refine Ev.pos (by omega) ?_
   by_cases h3 : x = 0
   ·rw [if_pos (.inr h3)]; exact Ev.pos (by omega) (Ev.now _)
   ·rw [if_neg (by omega)]; exact Ev.neg (by omega) hR
  ·rw [if_pos (.inl ⟨h1, h2⟩)]; exact Ev.neg (by omega) (Ev.now _)
 ·refine Ev.neg (by omega) ?_
  by_cases h3 : x = 0
  ·rw [if_pos (.inr h3)]; exact Ev.pos (by omega) (Ev.now _)
  ·rw [if_neg (by omega)]; exact Ev.neg (by omega) hR
theorem nr_loop (a : ByteArray) (ha : a.size ≤ 41) (d : Nat) : ∀ (i x w h : Nat) (cs : List Int), i ≤ a.size → a.size - i = d → x ≤ i → h ≤ i → cs.length ≤ i →
  Ev (fun k => qO.l0 k a false (x : Int) (i : Int) (w : Int) (h : Int) cs) (runN (a.data.toList.drop i) x w h cs) := by
 have hsz := qKC a
 induction d with
 | zero =>
  intro i x w h cs hi hd hx hh hc
  obtain rfl : i = a.size := by omega
  refine Ev.step (f := fun k => _) (fun k => by rw [qO.l0]) ?_
  refine Ev.pos (by omega) (Ev.neg (by omega) ?_)
  rw [List.drop_eq_nil_of_le (by omega), runN]
  exact nr_sep a a.size x w h cs (by omega) (by omega) (by omega) _ (nr_end a ha x (h + 1) cs)
 | succ d ih =>
  intro i x w h cs hi hd hx hh hc
  have hl : i < a.data.toList.length := by omega
  have e1 : ((i : Int) + 1) = ((i + 1 : Nat) : Int) := by omega
  have w1 : wrap64 ((i : Int) + 1) = ((i + 1 : Nat) : Int) := by unfold wrap64; omega
  have w2 : wrap64 ((x : Int) + 1) = ((x + 1 : Nat) : Int) := by unfold wrap64; omega
  have hdr := List.drop_eq_getElem_cons hl
  obtain ⟨c, hcc, hb⟩ : ∃ c, a.data.toList[i] = c ∧ bt a (i : Int) = (c.toNat : Int) := ⟨_, rfl, nr_bt a i hl⟩
  rw [hcc] at hdr
  clear hcc
  have HB := Lib.hid hb
  have HW1 := Lib.hid w1
  have HW2 := Lib.hid w2
  have HD := Lib.hid hdr
  clear hb w1 w2 hdr
  refine Ev.step (f := fun k => _) (fun k => by rw [qO.l0]) ?_
  refine Ev.pos (by omega) (Ev.pos (by omega) (Ev.pos (by omega) ?_))
  rw [HD.out, HB.out, runN]
  by_cases h47 : c = 47
  ·rw [show ((c.toNat : Int) != 47) = false by subst h47; rfl, if_pos h47]
   clear HB HD h47
   refine nr_sep a i x w h cs (by omega) (by omega) (by omega) _ ?_
   rw [e1]
   exact ih (i + 1) 0 x (h + 1) cs (by omega) (by omega) (by omega) (by omega) (by omega)
  ·rw [show ((c.toNat : Int) != 47) = true by
    rw [bne_iff_ne]; intro e; exact h47 ((nr_u8 c 47 (by decide)).1 e), if_neg h47]
   have go1 := ih (i + 1) (x + 1) w h (cs ++ [(c.toNat : Int)]) (by omega) (by omega) (by omega) (by omega) (by simp; omega)
   have step : Ev (fun k => qO.j3 k a false (x : Int) (i : Int) false (w : Int) (h : Int) cs) (runN (a.data.toList.drop (i + 1)) (x + 1) w h (cs ++ [(c.toNat : Int)])) := by
    refine Ev.step (f := fun k => _) (fun k => by rw [qO.j3]) ?_
    refine Ev.neg (by decide) (Ev.pos (by omega) (Ev.pos (by omega) (Ev.pos (by omega) ?_)))
    rw [HW1.out, HW2.out, HB.out]
    exact go1
   have bad : Ev (fun k => qO.j3 k a false (x : Int) (i : Int) true (w : Int) (h : Int) cs) badN := by
    refine Ev.step (f := fun k => _) (fun k => by rw [qO.j3]) ?_
    exact Ev.pos rfl (Ev.now _)
   have j2 : ∀ b : Bool, (c ≠ 46 → b = isDg c) → Ev (fun k => qO.j2 k a false (x : Int) (i : Int) b (w : Int) (h : Int) cs) (if okN c = true then runN (a.data.toList.drop (i + 1)) (x + 1) w h (cs ++ [(c.toNat : Int)]) else badN) := by
    intro b hb
    refine Ev.step (f := fun k => _) (fun k => by rw [qO.j2]) ?_
    refine Ev.pos (by omega) (Ev.pos (by omega) ?_)
    rw [HB.out]
    by_cases h46 : c = 46
    ·rw [if_pos (by unfold okN; rw [decide_eq_true h46]; rfl)]
     exact Ev.pos (by subst h46; rfl) step
    ·refine Ev.neg (fun e => h46 ((nr_u8 c 46 (by decide)).1 e)) ?_
     rw [hb h46]
     have hok : okN c = isDg c := by unfold okN; rw [decide_eq_false h46, Bool.false_or]
     rw [hok]
     cases isDg c with
     | true => rw [if_pos rfl]; exact step
     | false => rw [if_neg (by decide)]; exact bad
   refine Ev.step (f := fun k => _) (fun k => by rw [qO.j1]) ?_
   refine Ev.pos rfl (Ev.pos (by omega) (Ev.pos (by omega) ?_))
   rw [HB.out]
   clear HB HD HW1 HW2 go1 ih step bad e1
   have d1 : isDg c = (decide (48 ≤ c.toNat) && decide (c.toNat ≤ 57)) := rfl
   by_cases p1 : 48 ≤ c.toNat
   ·refine Ev.pos (by omega) ?_
    by_cases p2 : c.toNat ≤ 57
    ·refine Ev.pos (by omega) (Ev.neg (by decide) (j2 true fun _ => ?_))
     rw [d1, decide_eq_true p1, decide_eq_true p2]; rfl
    ·refine Ev.neg (by omega) ?_
     have d2 : isDg c = false := by rw [d1, decide_eq_false p2, Bool.and_false]
     by_cases p3 : c.toNat = 111
     ·exact Ev.pos (by omega) (j2 false fun _ => d2.symm)
     ·exact Ev.neg (by omega) (j2 false fun _ => d2.symm)
   ·refine Ev.neg (by omega) ?_
    have d2 : isDg c = false := by rw [d1, decide_eq_false p1, Bool.false_and]
    by_cases p3 : c.toNat = 111
    ·exact Ev.pos (by omega) (j2 false fun _ => d2.symm)
    ·exact Ev.neg (by omega) (j2 false fun _ => d2.symm)
def wideN (a : ByteArray) : Nat := (sp 47 a.data.toList).1.length
def rowsN (a : ByteArray) : List (List UInt8) := (sp 47 a.data.toList).1 :: (sp 47 a.data.toList).2
def highN (a : ByteArray) : Nat := (sp 47 a.data.toList).2.length + 1
def nums (l : List UInt8) : List Int := l.map fun c => (c.toNat : Int)
def fitN (a : ByteArray) : Prop := wideN a ≠ 0 ∧ (∀ r ∈ rowsN a, r.length = wideN a ∧ r.all okN = true)
instance (a : ByteArray) : Decidable (fitN a) := by unfold fitN; infer_instance
theorem runN_eq (l : List UInt8) : ∀ (x w h : Nat) (cs : List Int), runN l x w h cs =
  if (l.all (fun b => b == 47 || okN b)) = true ∧ x + (sp 47 l).1.length ≠ 0 ∧ (0 < h → x + (sp 47 l).1.length = w) ∧ (∀ r ∈ (sp 47 l).2, r.length = x + (sp 47 l).1.length)
  then (((x + (sp 47 l).1.length : Nat) : Int), ((h + ((sp 47 l).2.length + 1) : Nat) : Int), cs ++ nums ((sp 47 l).1 ++ (sp 47 l).2.flatten), true) else badN := by
 induction l with
 | nil =>
  intro x w h cs
  rw [runN]
  simp only [sp, List.all_nil, List.length_nil, Nat.add_zero, List.flatten_nil, List.append_nil, nums, List.map_nil, Nat.zero_add]
  by_cases hb : (0 < h ∧ x ≠ w) ∨ x = 0
  ·rw [if_pos hb, if_neg (by rintro ⟨_, h1, h2, _⟩; exact hb.elim (fun h34 => h34.2 (h2 h34.1)) h1)]
  ·rw [if_neg hb, if_pos ⟨trivial, fun e => hb (.inr e), fun h3 => Classical.byContradiction fun h4 => hb (.inl ⟨h3, h4⟩), by simp⟩]
 | cons c r ih =>
  intro x w h cs
  rw [runN]
  by_cases h47 : c = 47
  ·subst h47
   rw [if_pos rfl]
   simp only [sp, if_true, List.all_cons, beq_self_eq_true, Bool.true_or, Bool.true_and, List.length_nil, Nat.add_zero, List.nil_append, List.flatten_cons, List.length_cons]
   by_cases hb : (0 < h ∧ x ≠ w) ∨ x = 0
   ·rw [if_pos hb, if_neg (by rintro ⟨_, h1, h2, _⟩; exact hb.elim (fun h34 => h34.2 (h2 h34.1)) h1)]
   ·rw [if_neg hb, ih]
    have hx0 : x ≠ 0 := fun e => hb (.inr e)
    have hxw : 0 < h → x = w := fun h3 => Classical.byContradiction fun h4 => hb (.inl ⟨h3, h4⟩)
    by_cases hg : (r.all (fun b => b == 47 || okN b)) = true ∧ ∀ q ∈ (sp 47 r).1 :: (sp 47 r).2, q.length = x
    ·have hf : (sp 47 r).1.length = x := hg.2 _ (List.mem_cons_self)
     rw [if_pos ⟨hg.1, by omega, fun _ => by omega, fun q hq => by have := hg.2 q (List.mem_cons_of_mem _ hq); omega⟩, if_pos ⟨hg.1, hx0, hxw, hg.2⟩]
     have e1 : 0 + (sp 47 r).1.length = x := by omega
     have e2 : h + 1 + ((sp 47 r).2.length + 1) = h + ((sp 47 r).2.length + 1 + 1) := by omega
     rw [e1, e2]
    ·rw [if_neg, if_neg]
     ·rintro ⟨h1, _, _, h4⟩; exact hg ⟨h1, h4⟩
     ·rintro ⟨h1, _, h3, h4⟩
      have h5 := h3 (by omega)
      refine hg ⟨h1, fun q hq => ?_⟩
      rcases List.mem_cons.1 hq with rfl | hq
      ·omega
      ·have := h4 q hq; omega
  ·rw [if_neg h47]
   have e47 : (c == 47) = false := by simpa using h47
   simp only [sp, if_neg h47, List.all_cons, e47, Bool.false_or, List.length_cons]
   have hsh : x + ((sp 47 r).1.length + 1) = x + 1 + (sp 47 r).1.length := by omega
   by_cases h3 : okN c = true
   ·rw [if_pos h3, ih, h3, Bool.true_and, hsh]
    simp only [nums, List.cons_append, List.map_cons, List.append_assoc, List.nil_append]
   ·rw [if_neg h3, if_neg]
    rintro ⟨h1, _⟩
    rw [Bool.eq_false_iff.2 h3] at h1; simp at h1
def flatN (a : ByteArray) : List UInt8 := (rowsN a).flatten
theorem fitN_iff (a : ByteArray) : fitN a ↔ (a.data.toList.all (fun b => b == 47 || okN b)) = true ∧ wideN a ≠ 0 ∧ ∀ r ∈ (sp 47 a.data.toList).2, r.length = wideN a := by
 have hs := sp_all 47 okN a.data.toList (by decide)
 unfold fitN rowsN
 rw [← hs, Bool.and_eq_true]
 constructor
 ·rintro ⟨h1, h2⟩
  exact ⟨⟨(h2 _ List.mem_cons_self).2, List.all_eq_true.2 fun r hr => (h2 r (List.mem_cons_of_mem _ hr)).2⟩, h1, fun r hr => (h2 r (List.mem_cons_of_mem _ hr)).1⟩
 ·rintro ⟨⟨h1, h2⟩, h3, h4⟩
  refine ⟨h3, fun r hr => ?_⟩
  rcases List.mem_cons.1 hr with rfl | hr
  ·exact ⟨rfl, h1⟩
  ·exact ⟨h4 r hr, List.all_eq_true.1 h2 r hr⟩
theorem neRead_ev (a : ByteArray) : Ev (fun k => qO.f k a false) (if a.size ≤ 41 ∧ fitN a then ((wideN a : Int), (highN a : Int), nums (flatN a), true) else badN) := by
 unfold qO.f
 by_cases h41 : a.size ≤ 41
 ·refine Ev.neg (by omega) ?_
  have := nr_loop a h41 a.size 0 0 0 0 [] (by omega) (by omega) (by omega) (by omega) (by simp)
  rw [List.drop_zero, runN_eq] at this
  simp only [Nat.zero_add, List.nil_append, Nat.lt_irrefl, false_implies, true_and] at this
  have hw : (sp 47 a.data.toList).1.length = wideN a := rfl
  rw [hw] at this
  by_cases hf : fitN a
  ·rw [if_pos ⟨h41, hf⟩]
   obtain ⟨h1, h2, h3⟩ := (fitN_iff a).1 hf
   rw [if_pos ⟨h1, h2, h3⟩] at this
   exact this
  ·rw [if_neg (fun h => hf h.2)]
   rw [if_neg (fun h => hf ((fitN_iff a).2 h))] at this
   exact this
 ·rw [if_neg (fun h => h41 h.1)]
  exact Ev.pos (by omega) (Ev.now _)
def idxFrom : Nat → List UInt8 → List Nat
 | _, [] => []
 | b, c :: r => if c = 46 then idxFrom (b + 1) r else b :: idxFrom (b + 1) r
theorem idxFrom_append (l r : List UInt8) : ∀ b, idxFrom b (l ++ r) = idxFrom b l ++ idxFrom (b + l.length) r := by
 induction l with
 | nil => intro b; simp [idxFrom]
 | cons c l ih =>
  intro b
  rw [List.cons_append, idxFrom, idxFrom, ih, List.length_cons, show b + 1 + l.length = b + (l.length + 1) by omega]
  split
  ·rfl
  ·rfl
theorem qWA (l : List UInt8) : ∀ (b i : Nat), i ∈ idxFrom b l ↔ b ≤ i ∧ ∃ c, l[i - b]? = some c ∧ c ≠ 46 := by
 induction l with
 | nil => intro b i; simp [idxFrom]
 | cons c l ih =>
  intro b i
  have key : (i ∈ idxFrom (b + 1) l) ↔ (b + 1 ≤ i ∧ ∃ d, (c :: l)[i - b]? = some d ∧ d ≠ 46) := by
   rw [ih]
   constructor
   ·rintro ⟨h1, d, h2, h3⟩
    exact ⟨h1, d, by rw [show i - b = (i - (b + 1)) + 1 by omega, List.getElem?_cons_succ]; exact h2, h3⟩
   ·rintro ⟨h1, d, h2, h3⟩
    rw [show i - b = (i - (b + 1)) + 1 by omega, List.getElem?_cons_succ] at h2
    exact ⟨h1, d, h2, h3⟩
  rw [idxFrom]
  by_cases h46 : c = 46
  ·rw [if_pos h46, key]
   constructor
   ·rintro ⟨h1, h2⟩; exact ⟨by omega, h2⟩
   ·rintro ⟨h1, d, h2, h3⟩
    refine ⟨?_, d, h2, h3⟩
    rcases Nat.lt_or_ge b i with h | h
    ·exact h
    ·obtain rfl : i = b := by omega
     rw [Nat.sub_self] at h2
     simp at h2
     exact absurd (h2.symm.trans h46) h3
  ·rw [if_neg h46, List.mem_cons, key]
   constructor
   ·rintro (rfl | ⟨h1, h2⟩)
    ·exact ⟨Nat.le_refl _, c, by simp, h46⟩
    ·exact ⟨by omega, h2⟩
   ·rintro ⟨h1, d, h2, h3⟩
    rcases Nat.lt_or_ge b i with h | h
    ·exact .inr ⟨h, d, h2, h3⟩
    ·exact .inl (by omega)
theorem idxFrom_sorted (l : List UInt8) : ∀ b, (idxFrom b l).Pairwise (· < ·) := by
 induction l with
 | nil => intro b; simp [idxFrom]
 | cons c l ih =>
  intro b
  rw [idxFrom]
  split
  ·exact ih _
  ·exact List.pairwise_cons.2 ⟨fun i hi => ((qWA l (b + 1) i).1 hi).1, ih _⟩
theorem qfB (l : List UInt8) (b : Nat) : (idxFrom b l).Nodup := (idxFrom_sorted l b).imp (fun h => Nat.ne_of_lt h)
def ints (l : List Nat) : List Int := l.map fun (i : Nat) => Int.ofNat i
theorem rdNums (l : List UInt8) (i : Nat) (h : i < l.length) : rd (nums l) (i : Int) = (l[i].toNat : Int) := by
 unfold rd nums
 rw [Int.toNat_natCast, List.getD_eq_getElem?_getD, List.getElem?_map, List.getElem?_eq_getElem h]
 rfl
theorem neDigits_loop (l : List UInt8) (hl : l.length ≤ 100) (d : Nat) : ∀ (i : Nat) (acc : List Nat), i ≤ l.length → l.length - i = d → acc.length ≤ i →
  Ev (fun k => qg.l0 k (ints acc) (nums l) (l.length : Int) (i : Int)) (ints (acc ++ idxFrom i (l.drop i))) := by
 have hn : (nums l).length = l.length := List.length_map _
 induction d with
 | zero =>
  intro i acc hi hd ha
  refine Ev.step (f := fun k => _) (fun k => by rw [qg.l0]) ?_
  rw [List.drop_eq_nil_of_le (by omega), idxFrom, List.append_nil]
  exact Ev.neg (by omega) (Ev.now _)
 | succ d ih =>
  intro i acc hi hd ha
  have h : i < l.length := by omega
  have w1 : wrap64 ((i : Int) + 1) = ((i + 1 : Nat) : Int) := by unfold wrap64; omega
  refine Ev.step (f := fun k => _) (fun k => by rw [qg.l0]) ?_
  refine Ev.pos (by omega) (Ev.pos (by omega) (Ev.pos (by omega) ?_))
  rw [rdNums l i h, w1, List.drop_eq_getElem_cons h, idxFrom]
  by_cases h46 : l[i] = 46
  ·rw [if_pos h46]
   refine Ev.pos (by rw [h46]; rfl) ?_
   exact ih (i + 1) acc (by omega) (by omega) (by omega)
  ·rw [if_neg h46]
   refine Ev.neg (fun e => h46 ((nr_u8 _ 46 (by decide)).1 e)) (Ev.pos (by unfold ints; rw [List.length_map]; omega) ?_)
   have := ih (i + 1) (acc ++ [i]) (by omega) (by omega) (by simp; omega)
   rw [List.append_assoc] at this
   have e : ints (acc ++ [i]) = ints acc ++ [(i : Int)] := by unfold ints; rw [List.map_append]; rfl
   rw [e] at this
   exact this
theorem qtB (w h : Int) (l : List UInt8) (hl : l.length ≤ 100) : Ev (fun k => qg.f k w h (nums l)) (ints (idxFrom 0 l)) := by
 have hn : (nums l).length = l.length := List.length_map _
 unfold qg.f
 rw [hn]
 have := neDigits_loop l hl l.length 0 [] (by omega) (by omega) (by simp)
 rw [List.drop_zero, List.nil_append] at this
 exact this
def cellAt (w i : Nat) : CC := ⟨((i % w : Nat) : Int), ((i / w : Nat) : Int)⟩
def digAt (l : List UInt8) (i : Nat) : Int := ((l.getD i 0).toNat : Int) - 48
def rowCells (y : Nat) : Nat → List UInt8 → List CC
 | _, [] => []
 | x, c :: r => if c = 46 then rowCells y (x + 1) r else ⟨(x : Int), (y : Int)⟩ :: rowCells y (x + 1) r
def rowDs : List UInt8 → List Int
 | [] => []
 | c :: r => if c = 46 then rowDs r else ((c.toNat : Int) - 48) :: rowDs r
def rowMs : Nat → List UInt8 → List (Int × Bool) → List (Int × Bool)
 | _, [], m => m
 | x, c :: r, m => rowMs (x + 1) r (if c = 46 then m else ((x : Int), true) :: m)
theorem sixRow_eq (y : Nat) (l : List UInt8) : ∀ (x : Nat) (s : Sx), s.cs.length ≤ 6 → sixRow y x l s =
  if l.all okN = true ∧ s.cs.length + (rowCells y x l).length ≤ 6 then some ⟨s.cs ++ rowCells y x l, s.ds ++ rowDs l, rowMs x l s.ms⟩ else none := by
 induction l with
 | nil =>
  intro x s hs
  rw [sixRow, if_pos ⟨rfl, by simpa [rowCells] using hs⟩]
  simp [rowCells, rowDs, rowMs]
 | cons c l ih =>
  intro x s hs
  rw [sixRow, sixByte, rowCells, rowDs, rowMs, List.all_cons]
  by_cases h46 : c = 46
  ·rw [if_pos h46, if_pos h46, if_pos h46, if_pos h46, Option.bind_some, ih _ _ hs]
   have : okN c = true := by unfold okN; rw [decide_eq_true h46]; rfl
   rw [this, Bool.true_and]
  ·rw [if_neg h46, if_neg h46, if_neg h46, if_neg h46]
   have hok : okN c = isDg c := by unfold okN; rw [decide_eq_false h46, Bool.false_or]
   rw [hok]
   cases isDg c with
   | false =>
    rw [if_neg (by decide), Option.bind_none, if_neg (by simp)]
   | true =>
    rw [if_pos rfl, Bool.true_and]
    by_cases h6 : s.cs.length = 6
    ·rw [if_pos h6, Option.bind_none, if_neg (by simp; intros; omega)]
    ·rw [if_neg h6, Option.bind_some, ih _ _ (by simp; omega)]
     simp only [List.length_append, List.length_cons, List.length_nil]
     by_cases hc : l.all okN = true ∧ s.cs.length + ((rowCells y (x + 1) l).length + 1) ≤ 6
     ·rw [if_pos ⟨hc.1, by omega⟩, if_pos hc]
      simp [List.append_assoc]
     ·rw [if_neg (fun h => hc ⟨h.1, by omega⟩), if_neg hc]
end Go.Proofs.YtdncpkppkafkpaaGreatDoor
set_option linter.unusedSectionVars false
namespace Go.Proofs.YtdncpkppkafkpaaGreatDoor.Bfs
section
variable {α β : Type} [DecidableEq α]
def put (L : List (α × β)) (y : Option α) (p : β) : List (α × β) := match y with
 | none => L
 | some y => if y ∈ L.map Prod.fst then L else L ++ [(y, p)]
def puts (L : List (α × β)) : List (Option α × β) → List (α × β)
 | [] => L
 | (y, p) :: r => puts (put L y p) r
variable (next : Nat → α → β → List (Option α × β))
def round (i : Nat) (L : List (α × β)) : List (α × β) := match L[i]? with
 | none => L
 | some x => puts L (next i x.1 x.2)
def run : Nat → Nat → List (α × β) → List (α × β)
 | 0, _, L => L
 | n + 1, i, L => if i < L.length then run n (i + 1) (round next i L) else L
theorem qVC {L : List (α × β)} {y : α} (h : y ∈ L.map Prod.fst) (p : β) : put L (some y) p = L := if_pos h
theorem qIC {L : List (α × β)} {y : α} (h : ¬ y ∈ L.map Prod.fst) (p : β) : put L (some y) p = L ++ [(y, p)] := if_neg h
theorem qUC {L : List (α × β)} (h : (L.map Prod.fst).Nodup) (y : Option α) (p : β) : ((put L y p).map Prod.fst).Nodup := by
 unfold put
 split
 ·exact h
 ·rename_i y
  split
  ·exact h
  ·rename_i hy
   rw [List.map_append, List.nodup_append]
   refine ⟨h, by simp, ?_⟩
   intro a ha b hb e
   simp at hb
   subst hb
   subst e
   exact hy ha
theorem puts_nodup (l : List (Option α × β)) : ∀ {L : List (α × β)}, (L.map Prod.fst).Nodup → ((puts L l).map Prod.fst).Nodup := by
 induction l with
 | nil => intro L h; exact h
 | cons x l ih => intro L h; exact ih (qUC h _ _)
theorem round_nodup {L : List (α × β)} (h : (L.map Prod.fst).Nodup) (i : Nat) : ((round next i L).map Prod.fst).Nodup := by
 unfold round
 split
 ·exact h
 ·exact puts_nodup _ h
theorem run_nodup : ∀ (n i : Nat) {L : List (α × β)}, (L.map Prod.fst).Nodup → ((run next n i L).map Prod.fst).Nodup
 | 0, _, L, h => h
 | n + 1, i, L, h => by
  unfold run
  split
  ·exact run_nodup n (i + 1) (round_nodup next h i)
  ·exact h
theorem put_all {Q : α × β → Prop} {L : List (α × β)} (h : ∀ x ∈ L, Q x) (y : Option α) (p : β) (hy : ∀ z, y = some z → Q (z, p)) : ∀ x ∈ put L y p, Q x := by
 unfold put
 split
 ·exact h
 ·rename_i z
  split
  ·exact h
  ·intro x hx
   rcases List.mem_append.1 hx with hx | hx
   ·exact h x hx
   ·simp at hx; subst hx; exact hy z rfl
theorem puts_all {Q : α × β → Prop} : ∀ (l : List (Option α × β)) {L : List (α × β)}, (∀ x ∈ L, Q x) → (∀ s ∈ l, ∀ z, s.1 = some z → Q (z, s.2)) → ∀ x ∈ puts L l, Q x
 | [], L, h, _ => h
 | s :: l, L, h, hs => puts_all l (put_all h s.1 s.2 (hs s (by simp))) (fun t ht => hs t (by simp [ht]))
theorem round_all {Q : α × β → Prop} (hn : ∀ i x p, Q (x, p) → ∀ s ∈ next i x p, ∀ z, s.1 = some z → Q (z, s.2)) (i : Nat) {L : List (α × β)} (h : ∀ x ∈ L, Q x) : ∀ x ∈ round next i L, Q x := by
 unfold round
 split
 ·exact h
 ·rename_i x hx
  exact puts_all _ h (hn i x.1 x.2 (h x (List.mem_of_getElem? hx)))
theorem run_all {Q : α × β → Prop} (hn : ∀ i x p, Q (x, p) → ∀ s ∈ next i x p, ∀ z, s.1 = some z → Q (z, s.2)) : ∀ (n i : Nat) {L : List (α × β)}, (∀ x ∈ L, Q x) → ∀ x ∈ run next n i L, Q x
 | 0, _, L, h => h
 | n + 1, i, L, h => by
  unfold run
  split
  ·exact run_all hn n (i + 1) (round_all next hn i h)
  ·exact h
theorem qOB {U : List α} : ∀ {l : List α}, l.Nodup → (∀ x ∈ l, x ∈ U) → l.length ≤ U.length := by
 intro l
 induction l generalizing U with
 | nil => intro _ _; simp
 | cons a l ih =>
  intro hn hu
  obtain ⟨h1, h2⟩ := List.nodup_cons.1 hn
  have ha : a ∈ U := hu a (by simp)
  have := ih (U := U.erase a) h2 (fun x hx => by
   have hne : x ≠ a := fun e => h1 (e ▸ hx)
   exact (List.mem_erase_of_ne hne).2 (hu x (by simp [hx])))
  rw [List.length_erase_of_mem ha] at this
  have : 0 < U.length := List.length_pos_of_mem ha
  simp only [List.length_cons]
  omega
end
end Go.Proofs.YtdncpkppkafkpaaGreatDoor.Bfs
namespace Go.Proofs.YtdncpkppkafkpaaGreatDoor
open Go.RowKit Go.Proofs.YtdncpkppkafkpaaGreatDoor.P Go.Proofs.YtdncpkppkafkpaaGreatDoorW.PrintWords Go.Proofs.YtdncpkppkafkpaaGreatDoorW.PrintLast
set_option linter.unusedVariables false
set_option linter.unusedSimpArgs false
theorem cellAt_row (w y x : Nat) (h : x < w) : cellAt w (y * w + x) = ⟨(x : Int), (y : Int)⟩ := by
 unfold cellAt
 have h1 : (y * w + x) % w = x := by rw [Nat.mul_comm, Nat.mul_add_mod, Nat.mod_eq_of_lt h]
 have h2 : (y * w + x) / w = y := by rw [Nat.mul_comm, Nat.mul_add_div (by omega), Nat.div_eq_of_lt h, Nat.add_zero]
 rw [h1, h2]
theorem rowCells_idx (w y : Nat) (l : List UInt8) : ∀ x, x + l.length ≤ w → rowCells y x l = (idxFrom (y * w + x) l).map (cellAt w) := by
 induction l with
 | nil => intro x _; rfl
 | cons c l ih =>
  intro x h
  rw [List.length_cons] at h
  rw [rowCells, idxFrom, ih (x + 1) (by omega), show y * w + (x + 1) = y * w + x + 1 by omega]
  split
  ·rfl
  ·rw [List.map_cons, cellAt_row w y x (by omega)]
theorem rowDs_idx (F : List UInt8) (l : List UInt8) : ∀ b, (∀ j, j < l.length → F[b + j]? = l[j]?) → rowDs l = (idxFrom b l).map (digAt F) := by
 induction l with
 | nil => intro b _; rfl
 | cons c l ih =>
  intro b h
  have h0 := h 0 (by simp)
  have hr := ih (b + 1) (fun j hj => by
   have := h (j + 1) (by simpa using hj)
   rw [List.getElem?_cons_succ, show b + (j + 1) = b + 1 + j by omega] at this
   exact this)
  rw [rowDs, idxFrom, hr]
  split
  ·rfl
  ·rw [List.map_cons]
   congr 1
   unfold digAt
   rw [List.getD_eq_getElem?_getD, show F[b]? = some c by simpa using h0]
   rfl
theorem rowMs_keys (y : Nat) (l : List UInt8) : ∀ (x : Nat) (m : List (Int × Bool)) (z : Int), z ∈ (rowMs x l m).map Prod.fst ↔ z ∈ (rowCells y x l).map (fun c => c.f0) ∨ z ∈ m.map Prod.fst := by
 induction l with
 | nil => intro x m z; simp [rowMs, rowCells]
 | cons c l ih =>
  intro x m z
  rw [rowMs, rowCells, ih]
  by_cases h : c = 46
  ·rw [if_pos h, if_pos h]
  ·rw [if_neg h, if_neg h, List.map_cons, List.map_cons, List.mem_cons, List.mem_cons]
   constructor
   ·rintro (h1 | h1 | h1)
    ·exact .inl (.inr h1)
    ·exact .inl (.inl h1)
    ·exact .inr h1
   ·rintro ((h1 | h1) | h1)
    ·exact .inr (.inl h1)
    ·exact .inl h1
    ·exact .inr (.inr h1)
def allCells : Nat → List (List UInt8) → List CC
 | _, [] => []
 | y, r :: L => rowCells y 0 r ++ allCells (y + 1) L
def allDs : List (List UInt8) → List Int
 | [] => []
 | r :: L => rowDs r ++ allDs L
def allMs : List (List UInt8) → List (Int × Bool) → List (Int × Bool)
 | [], m => m
 | r :: L, m => allMs L (rowMs 0 r m)
def rowOk (w : Nat) (r : List UInt8) : Prop := r.length = w ∧ r.all (fun c => c == 46) = false ∧ r.all okN = true
instance (w : Nat) (r : List UInt8) : Decidable (rowOk w r) := by unfold rowOk; infer_instance
def datas (L : List ByteArray) : List (List UInt8) := L.map fun r => r.data.toList
theorem datas_cons (r : ByteArray) (L : List ByteArray) : datas (r :: L) = r.data.toList :: datas L := rfl
theorem sixRows_eq (w : Nat) (L : List ByteArray) : ∀ (y : Nat) (s : Sx), s.cs.length ≤ 6 → sixRows w y L s =
  if (∀ r ∈ datas L, rowOk w r) ∧ s.cs.length + (allCells y (datas L)).length ≤ 6 then some ⟨s.cs ++ allCells y (datas L), s.ds ++ allDs (datas L), allMs (datas L) s.ms⟩ else none := by
 induction L with
 | nil =>
  intro y s hs
  rw [sixRows, if_pos ⟨by simp [datas], by simpa [datas, allCells] using hs⟩]
  simp [datas, allCells, allDs, allMs]
 | cons r L ih =>
  intro y s hs
  have hz : r.data.toList.length = r.size := qKC r
  rw [sixRows, datas_cons, allCells, allDs, allMs]
  by_cases h1 : r.size = w
  ·rw [if_pos h1]
   cases h2 : isDots r with
   | true =>
    rw [if_pos rfl, if_neg]
    rintro ⟨h, _⟩
    have h3 := (h _ List.mem_cons_self).2.1
    unfold isDots at h2
    rw [h2] at h3
    cases h3
   | false =>
    rw [if_neg (by decide), sixRow_eq y _ 0 s hs]
    by_cases h3 : r.data.toList.all okN = true ∧ s.cs.length + (rowCells y 0 r.data.toList).length ≤ 6
    ·rw [if_pos h3, Option.bind_some, ih _ _ (by rw [List.length_append]; exact h3.2)]
     simp only [List.length_append]
     have hr : rowOk w r.data.toList := ⟨by omega, by unfold isDots at h2; exact h2, h3.1⟩
     by_cases h4 : (∀ r ∈ datas L, rowOk w r) ∧ s.cs.length + (rowCells y 0 r.data.toList).length + (allCells (y + 1) (datas L)).length ≤ 6
     ·rw [if_pos h4, if_pos ⟨fun q hq => by rcases List.mem_cons.1 hq with rfl | hq; exact hr; exact h4.1 q hq, by omega⟩]
      simp only [List.append_assoc]
     ·rw [if_neg h4, if_neg]
      rintro ⟨h5, h6⟩
      exact h4 ⟨fun q hq => h5 q (List.mem_cons_of_mem _ hq), by omega⟩
    ·rw [if_neg h3, Option.bind_none, if_neg]
     rintro ⟨h5, h6⟩
     rw [List.length_append] at h6
     exact h3 ⟨(h5 _ List.mem_cons_self).2.2, by omega⟩
  ·rw [if_neg h1, if_neg]
   rintro ⟨h, _⟩
   have := (h _ List.mem_cons_self).1
   omega
theorem allCells_idx (w : Nat) (L : List (List UInt8)) : ∀ y, (∀ r ∈ L, r.length = w) → allCells y L = (idxFrom (y * w) L.flatten).map (cellAt w) := by
 induction L with
 | nil => intro y _; rfl
 | cons r L ih =>
  intro y h
  have hr := h r List.mem_cons_self
  rw [allCells, List.flatten_cons, idxFrom_append, List.map_append, ih (y + 1) (fun q hq => h q (List.mem_cons_of_mem _ hq)), rowCells_idx w y r 0 (by omega), hr, Nat.add_zero, show (y + 1) * w = y * w + w by rw [Nat.add_mul, Nat.one_mul]]
theorem allDs_idx (F : List UInt8) (L : List (List UInt8)) : ∀ b, (∀ j, j < L.flatten.length → F[b + j]? = L.flatten[j]?) → allDs L = (idxFrom b L.flatten).map (digAt F) := by
 induction L with
 | nil => intro b _; rfl
 | cons r L ih =>
  intro b h
  rw [List.flatten_cons] at h
  rw [allDs, List.flatten_cons, idxFrom_append, List.map_append, rowDs_idx F r b (fun j hj => by
   have := h j (by rw [List.length_append]; omega)
   rwa [List.getElem?_append_left hj] at this), ih (b + r.length) (fun j hj => by
   have := h (r.length + j) (by rw [List.length_append]; omega)
   rw [List.getElem?_append_right (by omega), show r.length + j - r.length = j by omega, show b + (r.length + j) = b + r.length + j by omega] at this
   exact this)]
theorem allMs_keys (L : List (List UInt8)) : ∀ (y : Nat) (m : List (Int × Bool)) (z : Int), z ∈ (allMs L m).map Prod.fst ↔ z ∈ (allCells y L).map (fun c => c.f0) ∨ z ∈ m.map Prod.fst := by
 induction L with
 | nil => intro y m z; simp [allMs, allCells]
 | cons r L ih =>
  intro y m z
  rw [allMs, allCells, ih (y + 1), rowMs_keys y, List.map_append, List.mem_append]
  constructor
  ·rintro (h | h | h)
   ·exact .inl (.inr h)
   ·exact .inl (.inl h)
   ·exact .inr h
  ·rintro ((h | h) | h)
   ·exact .inr (.inl h)
   ·exact .inl h
   ·exact .inr (.inr h)
theorem qiB (a : ByteArray) : datas (rowsOf6 a) = rowsN a := split_sp a 47
theorem rowsOf6_head (a : ByteArray) : ((rowsOf6 a).headD ByteArray.empty).size = wideN a := by
 have h := qiB a
 cases hL : rowsOf6 a with
 | nil => rw [hL] at h; cases h
 | cons r L =>
  rw [hL, datas_cons] at h
  have : r.data.toList = (sp 47 a.data.toList).1 := (List.cons.inj h).1
  show r.size = _
  rw [← qKC, this]
  rfl
def placesN (a : ByteArray) : List Nat := idxFrom 0 (flatN a)
def goodN (a : ByteArray) : Prop := ∀ r ∈ rowsN a, rowOk (wideN a) r
instance (a : ByteArray) : Decidable (goodN a) := by unfold goodN; infer_instance
theorem qYC {a : ByteArray} (h : goodN a) : ∀ r ∈ rowsN a, r.length = wideN a := fun r hr => (h r hr).1
theorem sixAll_eq (a : ByteArray) : sixAll a = if goodN a ∧ (placesN a).length ≤ 6 then some ⟨(placesN a).map (cellAt (wideN a)), (placesN a).map (digAt (flatN a)), allMs (rowsN a) []⟩ else none := by
 unfold sixAll
 rw [sixRows_eq _ _ _ _ (by simp), rowsOf6_head, qiB]
 simp only [List.length_nil, Nat.zero_add, List.nil_append]
 by_cases hg : goodN a
 ·have e1 : allCells 0 (rowsN a) = (placesN a).map (cellAt (wideN a)) := by
   have := allCells_idx (wideN a) (rowsN a) 0 (qYC hg)
   rwa [Nat.zero_mul] at this
  have e2 : allDs (rowsN a) = (placesN a).map (digAt (flatN a)) := allDs_idx (flatN a) (rowsN a) 0 (fun j _ => by rw [Nat.zero_add]; rfl)
  rw [e1, e2, List.length_map]
  by_cases h6 : (placesN a).length ≤ 6
  ·rw [if_pos ⟨hg, h6⟩, if_pos ⟨hg, h6⟩]
  ·rw [if_neg (fun h => h6 h.2), if_neg (fun h => h6 h.2)]
 ·rw [if_neg (fun h => hg h.1), if_neg (fun h => hg h.1)]
theorem count_spec : ∀ m : List (Int × Bool), ∃ K : List Int, K.Nodup ∧ K.length = MapKit.count m ∧ ∀ z, z ∈ K ↔ z ∈ m.map Prod.fst
 | [] => ⟨[], List.nodup_nil, rfl, fun z => Iff.rfl⟩
 | x :: l => by
  obtain ⟨K, h1, h2, h3⟩ := count_spec l
  have hm : MapKit.met l x.1 = true ↔ x.1 ∈ l.map Prod.fst := by
   unfold MapKit.met
   rw [List.any_eq_true]
   constructor
   ·rintro ⟨y, hy, e⟩; exact List.mem_map.2 ⟨y, hy, of_decide_eq_true e⟩
   ·intro h; obtain ⟨y, hy, e⟩ := List.mem_map.1 h; exact ⟨y, hy, decide_eq_true e⟩
  rw [MapKit.count]
  by_cases h : MapKit.met l x.1 = true
  ·rw [if_pos h]
   refine ⟨K, h1, h2, fun z => ?_⟩
   rw [h3, List.map_cons, List.mem_cons]
   constructor
   ·exact .inr
   ·rintro (rfl | h4)
    ·exact hm.1 h
    ·exact h4
  ·rw [if_neg h]
   refine ⟨x.1 :: K, List.nodup_cons.2 ⟨fun h4 => h (hm.2 ((h3 _).1 h4)), h1⟩, by rw [List.length_cons, h2], fun z => ?_⟩
   rw [List.mem_cons, h3, List.map_cons, List.mem_cons]
theorem nodup_range (w : Nat) : ((List.range w).map fun (i : Nat) => Int.ofNat i).Nodup := by
 rw [List.nodup_iff_pairwise_ne, List.pairwise_map]
 exact List.Pairwise.imp (fun h e => h (Int.ofNat.inj e)) (List.nodup_iff_pairwise_ne.1 List.nodup_range)
theorem count_full (m : List (Int × Bool)) (w : Nat) (hk : ∀ z ∈ m.map Prod.fst, ∃ i : Nat, i < w ∧ z = Int.ofNat i) : MapKit.count m = w ↔ ∀ j, j < w → Int.ofNat j ∈ m.map Prod.fst := by
 obtain ⟨K, h1, h2, h3⟩ := count_spec m
 have hU : ∀ z ∈ K, z ∈ (List.range w).map fun (i : Nat) => Int.ofNat i := fun z hz => by
  obtain ⟨i, hi, rfl⟩ := hk z ((h3 z).1 hz)
  exact List.mem_map.2 ⟨i, List.mem_range.2 hi, rfl⟩
 have hl : ((List.range w).map fun (i : Nat) => Int.ofNat i).length = w := by simp
 constructor
 ·intro h j hj
  rw [← h3]
  refine Classical.byContradiction fun hn => ?_
  have hjU : Int.ofNat j ∈ (List.range w).map fun (i : Nat) => Int.ofNat i := List.mem_map.2 ⟨j, List.mem_range.2 hj, rfl⟩
  have := Bfs.qOB (U := ((List.range w).map fun (i : Nat) => Int.ofNat i).erase (Int.ofNat j)) h1 (fun z hz => (List.mem_erase_of_ne (fun e => hn (by rw [← e]; exact hz))).2 (hU z hz))
  rw [List.length_erase_of_mem hjU, hl] at this
  omega
 ·intro h
  have a1 := Bfs.qOB h1 hU
  have a2 := Bfs.qOB (nodup_range w) (U := K) (fun z hz => by
   obtain ⟨i, hi, rfl⟩ := List.mem_map.1 hz
   exact (h3 _).2 (h i (List.mem_range.1 hi)))
  rw [hl] at a1 a2
  omega
def colsFull (a : ByteArray) : Prop := ∀ j, j < wideN a → ∃ i ∈ placesN a, i % wideN a = j
def linesFull (a : ByteArray) : Prop := ∀ j, j < highN a → ∃ i ∈ placesN a, i / wideN a = j
instance (a : ByteArray) : Decidable (colsFull a) := by unfold colsFull; infer_instance
instance (a : ByteArray) : Decidable (linesFull a) := by unfold linesFull; infer_instance
theorem cols_count {a : ByteArray} (hg : goodN a) : MapKit.count (allMs (rowsN a) []) = wideN a ↔ colsFull a := by
 have e1 : allCells 0 (rowsN a) = (placesN a).map (cellAt (wideN a)) := by
  have := allCells_idx (wideN a) (rowsN a) 0 (qYC hg)
  rwa [Nat.zero_mul] at this
 have hw : 0 < wideN a := by
  rcases Nat.eq_zero_or_pos (wideN a) with h | h
  ·have := hg _ (show (sp 47 a.data.toList).1 ∈ rowsN a from List.mem_cons_self)
   have h2 : (sp 47 a.data.toList).1 = [] := List.eq_nil_of_length_eq_zero h
   rw [h2] at this
   exact absurd this.2.1 (by simp)
  ·exact h
 have hkey : ∀ z, z ∈ (allMs (rowsN a) []).map Prod.fst ↔ ∃ i ∈ placesN a, z = Int.ofNat (i % wideN a) := by
  intro z
  rw [allMs_keys (rowsN a) 0, e1, List.map_map]
  simp only [List.map_nil, List.not_mem_nil, or_false, List.mem_map]
  constructor
  ·rintro ⟨i, hi, rfl⟩; exact ⟨i, hi, rfl⟩
  ·rintro ⟨i, hi, rfl⟩; exact ⟨i, hi, rfl⟩
 rw [count_full _ _ (fun z hz => by obtain ⟨i, _, e⟩ := (hkey z).1 hz; exact ⟨i % wideN a, Nat.mod_lt _ hw, e⟩)]
 unfold colsFull
 constructor
 ·intro h j hj
  obtain ⟨i, hi, e⟩ := (hkey _).1 (h j hj)
  exact ⟨i, hi, (Int.ofNat.inj e).symm⟩
 ·intro h j hj
  obtain ⟨i, hi, e⟩ := h j hj
  exact (hkey _).2 ⟨i, hi, by rw [e]⟩
theorem six_f (k : Nat) (a : ByteArray) (ha : a.size ≤ 1048576) : qGB.f k a =
  if goodN a ∧ (placesN a).length = 6 ∧ colsFull a then (qQA.f k ((placesN a).map (cellAt (wideN a)))).bind fun t => some (if t = true then ((placesN a).map (cellAt (wideN a)), (placesN a).map (digAt (flatN a)), true) else ([], [], false)) else some ([], [], false) := by
 unfold qGB.f
 rw [if_pos (by omega), sixAll_eq, rowsOf6_head]
 by_cases hg : goodN a
 ·by_cases h6 : (placesN a).length ≤ 6
  ·rw [if_pos ⟨hg, h6⟩]
   simp only [sixFin, List.length_map]
   by_cases e6 : (placesN a).length = 6
   ·rw [if_pos e6]
    by_cases hc : MapKit.count (allMs (rowsN a) []) = wideN a
    ·rw [if_pos hc, if_pos ⟨hg, e6, (cols_count hg).1 hc⟩]
    ·rw [if_neg hc, if_neg (fun h => hc ((cols_count hg).2 h.2.2))]
   ·rw [if_neg e6, if_neg (fun h => e6 h.2.1)]
  ·rw [if_neg (fun h => h6 h.2), if_neg (fun h => h6 (by omega))]
   rfl
 ·rw [if_neg (fun h => hg h.1), if_neg (fun h => hg h.1)]
  rfl
def mkM (m d : Nat) : Nat := m ||| 2 ^ d
theorem qjB : ∀ m : Nat, m < 64 → ∀ d : Nat, d < 6 → Go.bits .or .i64 (m : Int) (shl .i64 1 (d : Int)) = ((mkM m d : Nat) : Int) ∧ mkM m d < 64 := by decide +kernel
theorem qdC : ∀ m : Nat, m < 64 → ∀ d : Nat, d < 6 → ∀ j : Nat, j < 6 → (mkM m d).testBit j = (m.testBit j || decide (d = j)) := by decide +kernel
theorem full_bits : ∀ m : Nat, m < 64 → ∀ w : Nat, w < 7 → (((m : Int) = wrap64 (shl .i64 1 (w : Int) - 1)) ↔ ∀ j : Nat, j < 6 → m.testBit j = decide (j < w)) := by decide +kernel
def foldM (f : Nat → Nat) (l : List Nat) (m : Nat) : Nat := l.foldl (fun m i => mkM m (f i)) m
theorem foldM_lt (f : Nat → Nat) : ∀ (l : List Nat) (m : Nat), m < 64 → (∀ i ∈ l, f i < 6) → foldM f l m < 64
 | [], m, h, _ => h
 | i :: l, m, h, hl => foldM_lt f l _ (qjB m h (f i) (hl i List.mem_cons_self)).2 (fun j hj => hl j (List.mem_cons_of_mem _ hj))
theorem qZC (f : Nat → Nat) (j : Nat) (hj : j < 6) : ∀ (l : List Nat) (m : Nat), m < 64 → (∀ i ∈ l, f i < 6) → (foldM f l m).testBit j = (m.testBit j || l.any fun i => decide (f i = j))
 | [], m, h, _ => by simp [foldM]
 | i :: l, m, h, hl => by
  have h1 := hl i List.mem_cons_self
  have ih := qZC f j hj l (mkM m (f i)) (qjB m h (f i) h1).2 (fun q hq => hl q (List.mem_cons_of_mem _ hq))
  show (foldM f l (mkM m (f i))).testBit j = _
  rw [ih, qdC m h (f i) h1 j hj, List.any_cons, Bool.or_assoc]
theorem foldM_full (f : Nat → Nat) (l : List Nat) (w : Nat) (hw : w ≤ 6) (hl : ∀ i ∈ l, f i < w) : (((foldM f l 0 : Nat) : Int) = wrap64 (shl .i64 1 (w : Int) - 1)) ↔ ∀ j, j < w → ∃ i ∈ l, f i = j := by
 have h6 : ∀ i ∈ l, f i < 6 := fun i hi => by have := hl i hi; omega
 rw [full_bits _ (foldM_lt f l 0 (by decide) h6) w (by omega)]
 constructor
 ·intro h j hj
  have := h j (by omega)
  rw [qZC f j (by omega) l 0 (by decide) h6, decide_eq_true hj] at this
  simp only [Nat.zero_testBit, Bool.false_or, List.any_eq_true, decide_eq_true_eq] at this
  exact this
 ·intro h j hj
  rw [qZC f j hj l 0 (by decide) h6, Nat.zero_testBit, Bool.false_or]
  by_cases hjw : j < w
  ·rw [decide_eq_true hjw, List.any_eq_true]
   obtain ⟨i, hi, e⟩ := h j hjw
   exact ⟨i, hi, decide_eq_true e⟩
  ·rw [decide_eq_false hjw, List.any_eq_false]
   intro i hi
   have := hl i hi
   rw [decide_eq_true_eq]
   omega
theorem rdInts (D : List Nat) (j : Nat) (h : j < D.length) : rd (ints D) (j : Int) = (D[j] : Int) := by
 unfold rd ints
 rw [Int.toNat_natCast, List.getD_eq_getElem?_getD, List.getElem?_map, List.getElem?_eq_getElem h]
 rfl
theorem qkA (D : List Nat) : (ints D).length = D.length := List.length_map _
theorem w64_small (q : Nat) (h : q < 100) : wrap64 (q : Int) = (q : Int) := by unfold wrap64; omega
theorem qdA (j : Nat) (h : j < 1000) : wrap64 ((j : Int) + 1) = ((j + 1 : Nat) : Int) := by unfold wrap64; omega
theorem nz_of {w : Nat} (h : 0 < w) : ¬ (w : Int) = 0 := by omega
theorem not_lt_of {a b : Nat} (h : b ≤ a) : ¬ (a : Int) < (b : Int) := by omega
theorem tmodN (a b : Nat) : Int.tmod (a : Int) (b : Int) = ((a % b : Nat) : Int) := rfl
theorem tdivN (a b : Nat) : Int.tdiv (a : Int) (b : Int) = ((a / b : Nat) : Int) := rfl
theorem neSix_loop (w h : Nat) (hw0 : 0 < w) (hw : w ≤ 6) (hh : h ≤ 6) (X : List Int) (D : List Nat) (hDl : D.length ≤ 100) (hD : ∀ i ∈ D, i < w * h) (far : List Int) (hf : far.length = w * h) :
  ∀ (l : List Nat) (j m1 m2 : Nat), D.drop j = l → j ≤ D.length → m1 < 64 → m2 < 64 →
  Ev (fun k => qc.l0 k (ints D) (m1 : Int) (m2 : Int) far (D.length : Int) (j : Int) (w : Int) (h : Int) X)
   (if ∃ i ∈ l, rd far (i : Int) < 0 then false else (decide (((foldM (· % w) l m1 : Nat) : Int) = wrap64 (shl .i64 1 (w : Int) - 1)) && decide (((foldM (· / w) l m2 : Nat) : Int) = wrap64 (shl .i64 1 (h : Int) - 1)))) := by
 intro l
 induction l with
 | nil =>
  intro j m1 m2 hd hj h1 h2
  have hn : D.length ≤ j := by
   rcases Nat.lt_or_ge j D.length with h | h
   ·rw [List.drop_eq_getElem_cons h] at hd; cases hd
   ·exact h
  rw [if_neg (by simp)]
  refine Ev.step (f := fun k => _) (fun k => by rw [qc.l0]) ?_
  have a1 : ¬ (j : Int) < (D.length : Int) := not_lt_of hn
  refine Ev.neg a1 (Ev.pos (Int.natCast_nonneg _) ?_)
  show Ev _ (decide ((m1 : Int) = _) && decide ((m2 : Int) = _))
  by_cases e : (m1 : Int) = wrap64 (shl .i64 1 (w : Int) - 1)
  ·rw [decide_eq_true e, Bool.true_and]
   refine Ev.pos e (Ev.pos (Int.natCast_nonneg _) (Ev.some_ ?_))
   by_cases e2 : (m2 : Int) = wrap64 (shl .i64 1 (h : Int) - 1)
   ·rw [decide_eq_true e2, beq_iff_eq.2 e2]
   ·rw [decide_eq_false e2, beq_eq_false_iff_ne.2 e2]
  ·rw [decide_eq_false e, Bool.false_and]
   exact Ev.neg e (Ev.now _)
 | cons i l ih =>
  intro j m1 m2 hd hj h1 h2
  have hlt : j < D.length := by
   rcases Nat.lt_or_ge j D.length with h | h
   ·exact h
   ·rw [List.drop_eq_nil_of_le h] at hd; cases hd
  rw [List.drop_eq_getElem_cons hlt] at hd
  obtain ⟨hi, hd'⟩ := List.cons.inj hd
  have him : i < w * h := hD i (hi ▸ List.getElem_mem hlt)
  have hr : rd (ints D) (j : Int) = (i : Int) := by rw [rdInts D j hlt, hi]
  have w1 := qdA j (Nat.lt_of_lt_of_le hlt (Nat.le_trans hDl (by decide)))
  have hj1 : j + 1 ≤ D.length := hlt
  have a1 : (j : Int) < (D.length : Int) := Int.ofNat_lt.2 hlt
  have a2 : (0 : Int) ≤ (j : Int) := Int.natCast_nonneg _
  have a3 : (j : Int) < ((ints D).length : Int) := by rw [qkA]; exact a1
  have a4 : (0 : Int) ≤ (i : Int) := Int.natCast_nonneg _
  have a5 : (i : Int) < (far.length : Int) := by rw [hf]; exact Int.ofNat_lt.2 him
  have a6 : ¬ (w : Int) = 0 := nz_of hw0
  have hmod : i % w < 6 := Nat.lt_of_lt_of_le (Nat.mod_lt i hw0) hw
  have hdiv : i / w < h := by rw [Nat.div_lt_iff_lt_mul hw0, Nat.mul_comm]; exact him
  have hdiv6 : i / w < 6 := Nat.lt_of_lt_of_le hdiv hh
  have w2 : wrap64 ((i / w : Nat) : Int) = ((i / w : Nat) : Int) := w64_small _ (Nat.lt_of_lt_of_le hdiv6 (by decide))
  have ih := ih (j + 1) (mkM m1 (i % w)) (mkM m2 (i / w)) hd' hj1 (qjB m1 h1 _ hmod).2 (qjB m2 h2 _ hdiv6).2
  have b1 := (qjB m1 h1 _ hmod).1
  have b2 := (qjB m2 h2 (i / w) hdiv6).1
  clear hd hi hd'
  refine Ev.step (f := fun k => _) (fun k => by rw [qc.l0]) ?_
  refine Ev.pos a1 (Ev.pos a2 (Ev.pos a3 ?_))
  rw [hr]
  refine Ev.pos a4 (Ev.pos a5 ?_)
  by_cases hneg : rd far (i : Int) < 0
  ·rw [if_pos ⟨i, List.mem_cons_self, hneg⟩]
   exact Ev.pos hneg (Ev.now _)
  ·refine Ev.neg hneg (Ev.neg a6 ?_)
   rw [tmodN, tdivN, w2, w1]
   refine Ev.pos (Int.natCast_nonneg _) (Ev.pos (Int.natCast_nonneg _) ?_)
   rw [b1, b2]
   have e : (∃ q ∈ i :: l, rd far (q : Int) < 0) ↔ ∃ q ∈ l, rd far (q : Int) < 0 := by
    constructor
    ·rintro ⟨q, hq, hn⟩
     rcases List.mem_cons.1 hq with rfl | hq
     ·exact absurd hn hneg
     ·exact ⟨q, hq, hn⟩
    ·rintro ⟨q, hq, hn⟩
     exact ⟨q, List.mem_cons_of_mem _ hq, hn⟩
   by_cases hx : ∃ q ∈ l, rd far (q : Int) < 0
   ·rw [if_pos hx] at ih
    rw [if_pos (e.2 hx)]
    exact ih
   ·rw [if_neg hx] at ih
    rw [if_neg (fun h => hx (e.1 h))]
    exact ih
theorem qPB {a : ByteArray} (h : fitN a) : (flatN a).length = wideN a * highN a := by
 have key : ∀ (L : List (List UInt8)) (w : Nat), (∀ r ∈ L, r.length = w) → L.flatten.length = w * L.length := by
  intro L w
  induction L with
  | nil => intro _; rfl
  | cons r L ih =>
   intro hL
   rw [List.flatten_cons, List.length_append, ih (fun q hq => hL q (List.mem_cons_of_mem _ hq)), hL r List.mem_cons_self, List.length_cons, Nat.mul_add, Nat.mul_one]
   omega
 exact key (rowsN a) (wideN a) (fun r hr => (h.2 r hr).1)
theorem qUB {a : ByteArray} (h : fitN a) : ∀ i ∈ placesN a, i < wideN a * highN a := by
 intro i hi
 obtain ⟨_, c, hc, _⟩ := (qWA (flatN a) 0 i).1 hi
 have := (List.getElem?_eq_some_iff.1 hc).1
 rw [qPB h] at this
 omega
theorem qrA (l : List UInt8) : ∀ b, (idxFrom b l).length ≤ l.length := by
 induction l with
 | nil => intro b; simp [idxFrom]
 | cons c l ih =>
  intro b
  rw [idxFrom]
  split
  ·have := ih (b + 1); simp; omega
  ·have := ih (b + 1); simp; omega
def sixN (a : ByteArray) (far : List Int) : Bool := decide ((placesN a).length = 6) && (decide (wideN a ≤ 6) && (decide (highN a ≤ 6) && (decide (∀ i ∈ placesN a, ¬ rd far (i : Int) < 0) && (decide (colsFull a) && decide (linesFull a)))))
theorem neSix_ev (a : ByteArray) (hf : fitN a) (h41 : a.size ≤ 41) (far : List Int) (hfl : far.length = (flatN a).length)
  (hfar : (placesN a).length = 6 → wideN a ≤ 6 → highN a ≤ 6 → Ev (fun k => qS.f k (wideN a : Int) (highN a : Int) (nums (flatN a))) far) :
  Ev (fun k => qc.f k (wideN a : Int) (highN a : Int) (nums (flatN a))) (sixN a far) := by
 have hsz : (flatN a).length ≤ 100 := by
  have h1 := qSC 47 a.data.toList
  have h2 := qKC a
  have key : ∀ L : List (List UInt8), L.flatten.length = (L.map List.length).sum := by
   intro L
   induction L with
   | nil => rfl
   | cons r L ih => simp [ih]
  have h3 : (flatN a).length = (sp 47 a.data.toList).1.length + ((sp 47 a.data.toList).2.map List.length).sum := by
   unfold flatN rowsN
   rw [List.flatten_cons, List.length_append, key]
  omega
 have hw0 : 0 < wideN a := Nat.pos_of_ne_zero hf.1
 have hbad : ∀ b : Bool, b = true → Ev (fun k => qc.j0 k (ints (placesN a)) b (wideN a : Int) (highN a : Int) (nums (flatN a))) false := fun b hb => by
  refine Ev.step (f := fun k => _) (fun k => by rw [qc.j0]) ?_
  exact Ev.pos hb (Ev.now _)
 unfold qc.f
 refine Ev.bind (qtB _ _ _ hsz) ?_
 have hlen : (ints (idxFrom 0 (flatN a))).length = (placesN a).length := qkA _
 rw [hlen]
 unfold sixN
 by_cases e6 : (placesN a).length = 6
 ·rw [decide_eq_true e6, Bool.true_and]
  refine Ev.pos (by omega) ?_
  by_cases ew : wideN a ≤ 6
  ·rw [decide_eq_true ew, Bool.true_and]
   refine Ev.neg (by omega) ?_
   by_cases eh : highN a ≤ 6
   ·rw [decide_eq_true eh, Bool.true_and, decide_eq_false (show ¬ (highN a : Int) > 6 by omega)]
    refine Ev.step (f := fun k => _) (fun k => by rw [qc.j0]) ?_
    refine Ev.neg (by decide) (Ev.bind (hfar e6 ew eh) ?_)
    have hl := neSix_loop (wideN a) (highN a) hw0 ew eh (nums (flatN a)) (placesN a) (by omega) (qUB hf) far (by rw [hfl, qPB hf]) (placesN a) 0 0 0 List.drop_zero (by omega) (by decide) (by decide)
    have e0 : ((ints (idxFrom 0 (flatN a))).length : Int) = ((placesN a).length : Int) := by rw [hlen]
    rw [e0]
    have hres : (if ∃ i ∈ placesN a, rd far (i : Int) < 0 then false else (decide (((foldM (· % wideN a) (placesN a) 0 : Nat) : Int) = wrap64 (shl .i64 1 (wideN a : Int) - 1)) && decide (((foldM (· / wideN a) (placesN a) 0 : Nat) : Int) = wrap64 (shl .i64 1 (highN a : Int) - 1)))) = (decide (∀ i ∈ placesN a, ¬ rd far (i : Int) < 0) && (decide (colsFull a) && decide (linesFull a))) := by
     have c1 := foldM_full (· % wideN a) (placesN a) (wideN a) ew (fun i _ => Nat.mod_lt i hw0)
     have c2 := foldM_full (· / wideN a) (placesN a) (highN a) eh (fun i hi => by
      show i / wideN a < highN a
      rw [Nat.div_lt_iff_lt_mul hw0, Nat.mul_comm]; exact qUB hf i hi)
     by_cases hx : ∃ i ∈ placesN a, rd far (i : Int) < 0
     ·rw [if_pos hx, decide_eq_false, Bool.false_and]
      intro h
      obtain ⟨i, hi, hn⟩ := hx
      exact h i hi hn
     ·rw [if_neg hx, decide_eq_true (show ∀ i ∈ placesN a, ¬ rd far (i : Int) < 0 from fun i hi hn => hx ⟨i, hi, hn⟩), Bool.true_and, decide_eq_decide.2 c1, decide_eq_decide.2 c2]
      rfl
    rw [hres] at hl
    exact hl
   ·rw [decide_eq_false eh, Bool.false_and, decide_eq_true (show (highN a : Int) > 6 by omega)]
    exact hbad true rfl
  ·rw [decide_eq_false ew, Bool.false_and]
   exact Ev.pos (by omega) (hbad true rfl)
 ·rw [decide_eq_false e6, Bool.false_and]
  exact Ev.neg (by omega) (hbad true rfl)
theorem good_six (a : ByteArray) (h6 : (placesN a).length = 6) : (goodN a ∧ colsFull a) ↔ (a.size ≤ 41 ∧ fitN a ∧ wideN a ≤ 6 ∧ highN a ≤ 6 ∧ colsFull a ∧ linesFull a) := by
 have line : ∀ (L : List (List UInt8)) (w y : Nat), 0 < w → (∀ r ∈ L, r.length = w) → ∀ j r, L[j]? = some r → ((r.all fun c => c == 46) = false ↔ ∃ i ∈ idxFrom (y * w) L.flatten, i / w = y + j) := by
  intro L w y hw hL j r hj
  have hjl := (List.getElem?_eq_some_iff.1 hj).1
  have hcell : ∀ x, x < w → L.flatten[j * w + x]? = r[x]? := by
   clear h6
   induction L generalizing j with
   | nil => simp at hj
   | cons q L ih =>
    intro x hx
    have hq := hL q List.mem_cons_self
    cases j with
    | zero =>
     simp only [List.getElem?_cons_zero, Option.some.injEq] at hj
     subst hj
     rw [List.flatten_cons, Nat.zero_mul, Nat.zero_add, List.getElem?_append_left (by omega)]
    | succ j =>
     rw [List.getElem?_cons_succ] at hj
     rw [List.flatten_cons, List.getElem?_append_right (by rw [hq, Nat.add_mul, Nat.one_mul]; omega), hq, show (j + 1) * w + x - w = j * w + x by rw [Nat.add_mul, Nat.one_mul]; omega]
     exact ih (fun q hq => hL q (List.mem_cons_of_mem _ hq)) j hj (List.getElem?_eq_some_iff.1 hj).1 x hx
  have hrl : r.length = w := hL r (List.mem_of_getElem? hj)
  constructor
  ·intro h
   obtain ⟨c, hc, hne⟩ := List.all_eq_false.1 h
   obtain ⟨x, hx⟩ := List.mem_iff_getElem?.1 hc
   have hxl := (List.getElem?_eq_some_iff.1 hx).1
   refine ⟨y * w + (j * w + x), (qWA _ _ _).2 ⟨by omega, c, ?_, fun e => hne (by rw [e]; rfl)⟩, ?_⟩
   ·rw [show y * w + (j * w + x) - y * w = j * w + x by omega, hcell x (by omega)]
    exact hx
   ·rw [show y * w + (j * w + x) = w * (y + j) + x by rw [Nat.mul_add, Nat.mul_comm w y, Nat.mul_comm w j]; omega, Nat.mul_add_div hw, Nat.div_eq_of_lt (by omega), Nat.add_zero]
  ·rintro ⟨i, hi, e⟩
   obtain ⟨h1, c, h2, h3⟩ := (qWA _ _ _).1 hi
   have hmod := Nat.div_add_mod i w
   have hmlt := Nat.mod_lt i hw
   rw [e] at hmod
   have hix : i - y * w = j * w + i % w := by rw [Nat.mul_add, Nat.mul_comm w y, Nat.mul_comm w j] at hmod; omega
   rw [hix, hcell _ hmlt] at h2
   rw [List.all_eq_false]
   exact ⟨c, List.mem_of_getElem? h2, by simpa using h3⟩
 constructor
 ·rintro ⟨hg, hc⟩
  have hlen := qYC hg
  have hw0 : 0 < wideN a := by
   rcases Nat.eq_zero_or_pos (wideN a) with h | h
   ·have := hg _ (show (sp 47 a.data.toList).1 ∈ rowsN a from List.mem_cons_self)
    have h2 : (sp 47 a.data.toList).1 = [] := List.eq_nil_of_length_eq_zero h
    rw [h2] at this
    exact absurd this.2.1 (by simp)
   ·exact h
  have hfit : fitN a := ⟨by omega, fun r hr => ⟨(hg r hr).1, (hg r hr).2.2⟩⟩
  have hlines : linesFull a := by
   intro j hj
   have hjl : j < (rowsN a).length := hj
   have hr : (rowsN a)[j]? = some (rowsN a)[j] := List.getElem?_eq_getElem hjl
   have := (line (rowsN a) (wideN a) 0 hw0 hlen j _ hr).1 (hg _ (List.getElem_mem hjl)).2.1
   rw [Nat.zero_mul, Nat.zero_add] at this
   exact this
  have hw6 : wideN a ≤ 6 := by
   have := Bfs.qOB (U := (placesN a).map (· % wideN a)) (List.nodup_range (n := wideN a)) (fun j hj => by
    obtain ⟨i, hi, e⟩ := hc j (List.mem_range.1 hj)
    exact List.mem_map.2 ⟨i, hi, e⟩)
   rw [List.length_range, List.length_map, h6] at this
   exact this
  have hh6 : highN a ≤ 6 := by
   have := Bfs.qOB (U := (placesN a).map (· / wideN a)) (List.nodup_range (n := highN a)) (fun j hj => by
    obtain ⟨i, hi, e⟩ := hlines j (List.mem_range.1 hj)
    exact List.mem_map.2 ⟨i, hi, e⟩)
   rw [List.length_range, List.length_map, h6] at this
   exact this
  refine ⟨?_, hfit, hw6, hh6, hc, hlines⟩
  have h1 := qSC 47 a.data.toList
  rw [qKC] at h1
  have key : ∀ L : List (List UInt8), L.flatten.length = (L.map List.length).sum := by
   intro L
   induction L with
   | nil => rfl
   | cons r L ih => simp [ih]
  have h2 := qPB hfit
  unfold flatN rowsN at h2
  rw [List.flatten_cons, List.length_append, key] at h2
  have h3 : wideN a * highN a ≤ 6 * 6 := Nat.mul_le_mul hw6 hh6
  have h4 : (sp 47 a.data.toList).2.length + 1 = highN a := rfl
  omega
 ·rintro ⟨_, hf, hw6, hh6, hc, hl⟩
  refine ⟨fun r hr => ⟨(hf.2 r hr).1, ?_, (hf.2 r hr).2⟩, hc⟩
  obtain ⟨j, hj⟩ := List.mem_iff_getElem?.1 hr
  have hjl : j < highN a := (List.getElem?_eq_some_iff.1 hj).1
  obtain ⟨i, hi, e⟩ := hl j hjl
  exact (line (rowsN a) (wideN a) 0 (Nat.pos_of_ne_zero hf.1) (fun r hr => (hf.2 r hr).1) j r hj).2 ⟨i, by rw [Nat.zero_mul]; exact hi, by omega⟩
abbrev DD := S53
theorem dd_ext {a b : DD} (h0 : a.f0 = b.f0) (h1 : a.f1 = b.f1) (h2 : a.f2 = b.f2) (h3 : a.f3 = b.f3) (h4 : a.f4 = b.f4) (h5 : a.f5 = b.f5) : a = b := by
 cases a; cases b; simp only at h0 h1 h2 h3 h4 h5; subst h0; subst h1; subst h2; subst h3; subst h4; subst h5; rfl
instance ddDec : DecidableEq DD := fun a b =>
 if h : a.f0 = b.f0 ∧ a.f1 = b.f1 ∧ a.f2 = b.f2 ∧ a.f3 = b.f3 ∧ a.f4 = b.f4 ∧ a.f5 = b.f5 then isTrue (dd_ext h.1 h.2.1 h.2.2.1 h.2.2.2.1 h.2.2.2.2.1 h.2.2.2.2.2) else isFalse (fun e => h (by subst e; exact ⟨rfl, rfl, rfl, rfl, rfl, rfl⟩))
def rolD (x : DD) (d : Nat) : DD := if d = 0 then ⟨x.f3, x.f0, x.f2, x.f5, x.f4, x.f1⟩ else if d = 1 then ⟨x.f4, x.f1, x.f0, x.f3, x.f5, x.f2⟩ else if d = 2 then ⟨x.f1, x.f5, x.f2, x.f0, x.f4, x.f3⟩ else ⟨x.f2, x.f1, x.f5, x.f3, x.f0, x.f4⟩
def dirsW : ByteArray := ⟨#[110, 101, 115, 119]⟩
def dirW (d : Nat) : ByteArray := dirsW.extract d (d + 1)
def stepsD (x : DD) (w : ByteArray) : Nat → Nat → List (Option DD × ByteArray)
 | 0, _ => []
 | n + 1, d => (some (rolD x d), w ++ dirW d) :: stepsD x w n (d + 1)
def nextD (_ : Nat) (x : DD) (w : ByteArray) : List (Option DD × ByteArray) := stepsD x w 4 0
def faceD (x : DD) (n : Int) : Int := if n = 0 then x.f0 else if n = 1 then x.f1 else if n = 2 then x.f2 else if n = 3 then x.f3 else if n = 4 then x.f4 else x.f5
def putD (x p : DD) : DD := ⟨faceD x p.f0, faceD x p.f1, faceD x p.f2, faceD x p.f3, faceD x p.f4, faceD x p.f5⟩
theorem putD_rol (x p : DD) (d : Nat) : rolD (putD x p) d = putD x (rolD p d) := by
 unfold rolD
 by_cases h0 : d = 0
 ·simp only [if_pos h0]; rfl
 by_cases h1 : d = 1
 ·simp only [if_neg h0, if_pos h1]; rfl
 by_cases h2 : d = 2
 ·simp only [if_neg h0, if_neg h1, if_pos h2]; rfl
 ·simp only [if_neg h0, if_neg h1, if_neg h2]; rfl
def plainD : DD := ⟨0, 1, 2, 3, 4, 5⟩
def runD (x : DD) : List (DD × ByteArray) := Bfs.run nextD 24 0 [(x, ⟨#[]⟩)]
def rots : List DD := (runD plainD).map Prod.fst
theorem rots_len : rots.length = 24 := by decide +kernel
theorem rots_closed : ∀ p ∈ rots, rolD p 0 ∈ rots ∧ rolD p 1 ∈ rots ∧ rolD p 2 ∈ rots ∧ rolD p 3 ∈ rots := by decide +kernel
theorem rots_plain : plainD ∈ rots := by decide +kernel
def imgs (x : DD) : List DD := rots.map (putD x)
theorem imgs_len (x : DD) : (imgs x).length = 24 := by unfold imgs; rw [List.length_map, rots_len]
theorem imgs_rol {x y : DD} (h : y ∈ imgs x) (d : Nat) (hd : d < 4) : rolD y d ∈ imgs x := by
 obtain ⟨p, hp, rfl⟩ := List.mem_map.1 h
 rw [putD_rol]
 refine List.mem_map_of_mem ?_
 have hc := rots_closed p hp
 have : d = 0 ∨ d = 1 ∨ d = 2 ∨ d = 3 := by omega
 rcases this with rfl | rfl | rfl | rfl
 ·exact hc.1
 ·exact hc.2.1
 ·exact hc.2.2.1
 ·exact hc.2.2.2
theorem steps_mem (x : DD) (w : ByteArray) : ∀ (n d : Nat), d + n = 4 → ∀ s ∈ stepsD x w n d, ∃ e, e < 4 ∧ s = (some (rolD x e), w ++ dirW e)
 | 0, _, _, s, hs => by cases hs
 | n + 1, d, hd, s, hs => by
  rcases List.mem_cons.1 hs with rfl | hs
  ·exact ⟨d, by omega, rfl⟩
  ·exact steps_mem x w n (d + 1) (by omega) s hs
structure FoundD (x : DD) (L : List (DD × ByteArray)) : Prop where
 nodup : (L.map Prod.fst).Nodup
 img : ∀ z ∈ L, z.1 ∈ imgs x
theorem FoundD.len {x : DD} {L : List (DD × ByteArray)} (h : FoundD x L) : L.length ≤ 24 := by
 have := Bfs.qOB (U := imgs x) h.nodup (fun y hy => by
  obtain ⟨z, hz, rfl⟩ := List.mem_map.1 hy
  exact h.img z hz)
 rwa [imgs_len, List.length_map] at this
theorem FoundD.put {x : DD} {L : List (DD × ByteArray)} (h : FoundD x L) (y : Option DD) (p : ByteArray) (hy : ∀ z, y = some z → z ∈ imgs x) : FoundD x (Bfs.put L y p) :=
 ⟨Bfs.qUC h.nodup y p, Bfs.put_all (Q := fun z => z.1 ∈ imgs x) h.img y p hy⟩
theorem nextD_img {x : DD} (i : Nat) (y : DD) (p : ByteArray) (h : y ∈ imgs x) : ∀ s ∈ nextD i y p, ∀ z, s.1 = some z → z ∈ imgs x := by
 intro s hs z hz
 obtain ⟨e, he, rfl⟩ := steps_mem y p 4 0 rfl s hs
 cases hz
 exact imgs_rol h e he
theorem FoundD.round {x : DD} {L : List (DD × ByteArray)} (h : FoundD x L) (i : Nat) : FoundD x (Bfs.round nextD i L) :=
 ⟨Bfs.round_nodup _ h.nodup i, Bfs.round_all nextD (Q := fun z => z.1 ∈ imgs x) (fun i y p hy => nextD_img i y p hy) i h.img⟩
theorem FoundD.run {x : DD} {L : List (DD × ByteArray)} (h : FoundD x L) (n i : Nat) : FoundD x (Bfs.run nextD n i L) :=
 ⟨Bfs.run_nodup _ n i h.nodup, Bfs.run_all nextD (Q := fun z => z.1 ∈ imgs x) (fun i y p hy => nextD_img i y p hy) n i h.img⟩
abbrev Fnd := DD × Nat
def look (L : List (Nat × Fnd)) (i : Nat) : Option Fnd := (L.find? fun e => decide (e.1 = i)).map Prod.snd
theorem qDC {L : List (Nat × Fnd)} {i : Nat} (h : ¬ i ∈ L.map Prod.fst) : look L i = none := by
 unfold look
 rw [List.find?_eq_none.2]
 ·rfl
 ·intro e he hd
  exact h (List.mem_map.2 ⟨e, he, of_decide_eq_true hd⟩)
theorem look_add (L : List (Nat × Fnd)) (i : Nat) (v : Fnd) (h : ¬ i ∈ L.map Prod.fst) (q : Nat) : look (L ++ [(i, v)]) q = if q = i then some v else look L q := by
 unfold look
 rw [List.find?_append]
 by_cases hq : q = i
 ·subst hq
  have := qDC h
  unfold look at this
  rw [if_pos rfl]
  cases hf : L.find? (fun e => decide (e.1 = q)) with
  | some y => rw [hf] at this; cases this
  | none => simp
 ·rw [if_neg hq]
  cases hf : L.find? (fun e => decide (e.1 = q)) with
  | some y => rfl
  | none => simp [Ne.symm hq]
theorem qiC {L : List (Nat × Fnd)} (hn : (L.map Prod.fst).Nodup) {j : Nat} {e : Nat × Fnd} (h : L[j]? = some e) : look L e.1 = some e.2 := by
 induction L generalizing j with
 | nil => simp at h
 | cons y L ih =>
  rw [List.map_cons, List.nodup_cons] at hn
  cases j with
  | zero =>
   simp only [List.getElem?_cons_zero, Option.some.injEq] at h
   subst h
   unfold look
   rw [List.find?_cons_of_pos (by simp)]; rfl
  | succ j =>
   rw [List.getElem?_cons_succ] at h
   have hm : e.1 ∈ L.map Prod.fst := List.mem_map.2 ⟨e, List.mem_of_getElem? h, rfl⟩
   have hne : ¬ y.1 = e.1 := fun q => hn.1 (q ▸ hm)
   have := ih hn.2 h
   unfold look at this ⊢
   rw [List.find?_cons_of_neg (by simpa using hne)]
   exact this
theorem qXC {L : List (Nat × Fnd)} {i : Nat} (h : i ∈ L.map Prod.fst) : ∃ v, look L i = some v ∧ (i, v) ∈ L := by
 unfold look
 cases hf : L.find? (fun e => decide (e.1 = i)) with
 | none =>
  obtain ⟨e, he, q⟩ := List.mem_map.1 h
  exact absurd (decide_eq_true q) (List.find?_eq_none.1 hf e he)
 | some y =>
  have h1 := List.find?_some hf
  have h2 := List.mem_of_find?_eq_some hf
  have : y.1 = i := of_decide_eq_true h1
  subst this
  exact ⟨y.2, rfl, h2⟩
section
variable {γ : Type} (g : Option Fnd → γ)
def tabU (U : List Nat) (L : List (Nat × Fnd)) : List γ := U.map fun i => g (look L i)
theorem qoA (U : List Nat) (L : List (Nat × Fnd)) : (tabU g U L).length = U.length := List.length_map _
theorem qPC (U : List Nat) (L : List (Nat × Fnd)) (k : Nat) (h : k < U.length) : (tabU g U L)[k]? = some (g (look L U[k])) := by
 unfold tabU
 rw [List.getElem?_map, List.getElem?_eq_getElem h]; rfl
theorem qIB (U : List Nat) (hU : U.Nodup) (L : List (Nat × Fnd)) (k : Nat) (h : k < U.length) (v : Fnd) (hn : ¬ U[k] ∈ L.map Prod.fst) : (tabU g U L).set k (g (some v)) = tabU g U (L ++ [(U[k], v)]) := by
 refine List.ext_getElem? fun q => ?_
 rw [List.getElem?_set]
 by_cases hq : q < U.length
 ·rw [qPC g U L q hq, qPC g U (L ++ [(U[k], v)]) q hq, look_add L _ v hn]
  by_cases e : k = q
  ·subst e
   rw [if_pos rfl, if_pos (by rw [qoA]; exact h), if_pos rfl]
  ·rw [if_neg e, if_neg]
   intro e2
   exact e ((List.getElem_inj hU).1 e2.symm)
 ·rw [List.getElem?_eq_none (by rw [qoA]; omega)]
  by_cases e : k = q
  ·omega
  ·rw [if_neg e, List.getElem?_eq_none (by rw [qoA]; omega)]
end
def farG : Option Fnd → Int
 | some v => (v.2 : Int)
 | none => -1
def botG : Option Fnd → Int
 | some v => v.1.f5
 | none => -1
def botI : Option Fnd → Int
 | some v => v.1.f5
 | none => 0
def dieG : Option Fnd → DD
 | some v => v.1
 | none => z53
def nextC (c : CC) (d : Nat) : CC := if d = 0 then ⟨c.f0, c.f1 - 1⟩ else if d = 1 then ⟨c.f0 + 1, c.f1⟩ else if d = 2 then ⟨c.f0, c.f1 + 1⟩ else ⟨c.f0 - 1, c.f1⟩
def stepG (w h : Nat) (F : List UInt8) (d i : Nat) : Option Nat :=
 if 0 ≤ (nextC (cellAt w i) d).f0 ∧ (nextC (cellAt w i) d).f0 < (w : Int) ∧ 0 ≤ (nextC (cellAt w i) d).f1 ∧ (nextC (cellAt w i) d).f1 < (h : Int) then
  (if F[(nextC (cellAt w i) d).f1.toNat * w + (nextC (cellAt w i) d).f0.toNat]? = some 46 then none else some ((nextC (cellAt w i) d).f1.toNat * w + (nextC (cellAt w i) d).f0.toNat)) else none
def stepsN (w h : Nat) (F : List UInt8) (i : Nat) (v : Fnd) : Nat → Nat → List (Option Nat × Fnd)
 | 0, _ => []
 | n + 1, d => (stepG w h F d i, (rolD v.1 d, v.2 + 1)) :: stepsN w h F i v n (d + 1)
def nextN (w h : Nat) (F : List UInt8) (_ : Nat) (i : Nat) (v : Fnd) : List (Option Nat × Fnd) := stepsN w h F i v 4 0
theorem qNB {w h : Nat} {F : List UInt8} (hF : F.length = w * h) (hw : 0 < w) {d i j : Nat} (e : stepG w h F d i = some j) : j ∈ idxFrom 0 F ∧ cellAt w j = nextC (cellAt w i) d := by
 unfold stepG at e
 generalize nextC (cellAt w i) d = c at e
 split at e
 ·rename_i hc
  obtain ⟨h0, h1, h2, h3⟩ := hc
  obtain ⟨x, hx⟩ : ∃ x : Nat, c.f0 = (x : Int) := ⟨c.f0.toNat, by omega⟩
  obtain ⟨y, hy⟩ : ∃ y : Nat, c.f1 = (y : Int) := ⟨c.f1.toNat, by omega⟩
  rw [hx, hy, Int.toNat_natCast, Int.toNat_natCast] at e
  split at e
  ·cases e
  ·rename_i h46
   obtain rfl := Option.some.inj e
   have hxl : x < w := by omega
   have hyl : y < h := by omega
   have hlt : y * w + x < F.length := by
    rw [hF]
    have : (y + 1) * w ≤ h * w := Nat.mul_le_mul_right w hyl
    rw [Nat.add_mul, Nat.one_mul, Nat.mul_comm h w] at this
    omega
   refine ⟨(qWA F 0 _).2 ⟨Nat.zero_le _, F[y * w + x], by rw [Nat.sub_zero]; exact List.getElem?_eq_getElem hlt, fun e2 => h46 (by rw [List.getElem?_eq_getElem hlt, e2])⟩, ?_⟩
   rw [cellAt_row w y x hxl, ← hx, ← hy]
 ·cases e
theorem stepG_none {w h : Nat} {F : List UInt8} (hF : F.length = w * h) (hw : 0 < w) {d i : Nat} (e : stepG w h F d i = none) : ∀ j ∈ idxFrom 0 F, cellAt w j ≠ nextC (cellAt w i) d := by
 intro j hj he
 obtain ⟨_, c, hc, hne⟩ := (qWA F 0 j).1 hj
 rw [Nat.sub_zero] at hc
 have hjl := (List.getElem?_eq_some_iff.1 hc).1
 rw [hF] at hjl
 unfold stepG at e
 rw [← he] at e
 have hd := Nat.div_add_mod j w
 have hm := Nat.mod_lt j hw
 have hdl : j / w < h := by rw [Nat.div_lt_iff_lt_mul hw, Nat.mul_comm]; exact hjl
 unfold cellAt at e
 simp only [Int.toNat_natCast] at e
 rw [if_pos ⟨Int.natCast_nonneg _, Int.ofNat_lt.2 hm, Int.natCast_nonneg _, Int.ofNat_lt.2 hdl⟩, show j / w * w + j % w = j by rw [Nat.mul_comm]; exact hd, hc, if_neg (fun e2 => hne (Option.some.inj e2))] at e
 cases e
theorem cellAt_inj {w : Nat} (hw : 0 < w) {i j : Nat} (h : cellAt w i = cellAt w j) : i = j := by
 unfold cellAt at h
 injection h with h1 h2
 have e1 : i % w = j % w := Int.ofNat.inj h1
 have e2 : i / w = j / w := Int.ofNat.inj h2
 rw [← Nat.div_add_mod i w, ← Nat.div_add_mod j w, e1, e2]
theorem boNext_is (c : CC) (d : Nat) (hd : d < 4) (h0 : -100 ≤ c.f0 ∧ c.f0 ≤ 100) (h1 : -100 ≤ c.f1 ∧ c.f1 ≤ 100) : qz.f c.f0 c.f1 (d : Int) = some ((nextC c d).f0, (nextC c d).f1) := by
 have w1 : wrap64 (c.f0 + 1) = c.f0 + 1 := by unfold wrap64; omega
 have w2 : wrap64 (c.f0 - 1) = c.f0 - 1 := by unfold wrap64; omega
 have w3 : wrap64 (c.f1 + 1) = c.f1 + 1 := by unfold wrap64; omega
 have w4 : wrap64 (c.f1 - 1) = c.f1 - 1 := by unfold wrap64; omega
 unfold qz.f
 rw [w1, w2, w3, w4]
 obtain rfl | rfl | rfl | rfl : d = 0 ∨ d = 1 ∨ d = 2 ∨ d = 3 := by omega
 all_goals simp [nextC]
theorem next_is (c : CC) (d : Nat) (hd : d < 4) (h0 : -100 ≤ c.f0 ∧ c.f0 ≤ 100) (h1 : -100 ≤ c.f1 ∧ c.f1 ≤ 100) : qCB.f c.f0 c.f1 (bt (⟨#[110, 101, 115, 119]⟩ : ByteArray) (d : Int)) = some ((nextC c d).f0, (nextC c d).f1) := by
 have w1 : wrap64 (c.f0 + 1) = c.f0 + 1 := by unfold wrap64; omega
 have w2 : wrap64 (c.f0 - 1) = c.f0 - 1 := by unfold wrap64; omega
 have w3 : wrap64 (c.f1 + 1) = c.f1 + 1 := by unfold wrap64; omega
 have w4 : wrap64 (c.f1 - 1) = c.f1 - 1 := by unfold wrap64; omega
 unfold qCB.f
 rw [w1, w2, w3, w4]
 obtain rfl | rfl | rfl | rfl : d = 0 ∨ d = 1 ∨ d = 2 ∨ d = 3 := by omega
 ·have : bt (⟨#[110, 101, 115, 119]⟩ : ByteArray) ((0 : Nat) : Int) = 110 := by decide +kernel
  rw [this]; simp [nextC]
 ·have : bt (⟨#[110, 101, 115, 119]⟩ : ByteArray) ((1 : Nat) : Int) = 101 := by decide +kernel
  rw [this]; simp [nextC]
 ·have : bt (⟨#[110, 101, 115, 119]⟩ : ByteArray) ((2 : Nat) : Int) = 115 := by decide +kernel
  rw [this]; simp [nextC]
 ·have : bt (⟨#[110, 101, 115, 119]⟩ : ByteArray) ((3 : Nat) : Int) = 119 := by decide +kernel
  rw [this]; simp [nextC]
theorem roll_is (v : DD) (d : Nat) (hd : d < 4) : qPA.f v.f0 v.f1 v.f2 v.f3 v.f4 v.f5 (bt (⟨#[110, 101, 115, 119]⟩ : ByteArray) (d : Int)) = some ((rolD v d).f0, (rolD v d).f1, (rolD v d).f2, (rolD v d).f3, (rolD v d).f4, (rolD v d).f5) := by
 obtain rfl | rfl | rfl | rfl : d = 0 ∨ d = 1 ∨ d = 2 ∨ d = 3 := by omega
 ·have : bt (⟨#[110, 101, 115, 119]⟩ : ByteArray) ((0 : Nat) : Int) = 110 := by decide +kernel
  rw [this]; simp [qPA.f, rolD]
 ·have : bt (⟨#[110, 101, 115, 119]⟩ : ByteArray) ((1 : Nat) : Int) = 101 := by decide +kernel
  rw [this]; simp [qPA.f, rolD]
 ·have : bt (⟨#[110, 101, 115, 119]⟩ : ByteArray) ((2 : Nat) : Int) = 115 := by decide +kernel
  rw [this]; simp [qPA.f, rolD]
 ·have : bt (⟨#[110, 101, 115, 119]⟩ : ByteArray) ((3 : Nat) : Int) = 119 := by decide +kernel
  rw [this]; simp [qPA.f, rolD]
theorem specRoll_is (v : DD) (d : Nat) (hd : d < 4) : qyA.f v.f0 v.f1 v.f2 v.f3 v.f4 v.f5 (d : Int) = some ((rolD v d).f0, (rolD v d).f1, (rolD v d).f2, (rolD v d).f3, (rolD v d).f4, (rolD v d).f5) := by
 obtain rfl | rfl | rfl | rfl : d = 0 ∨ d = 1 ∨ d = 2 ∨ d = 3 := by omega
 all_goals simp [qyA.f, rolD]
theorem l1In_is (n a b : Int) : qk.f n a b = some (decide (a ≤ n) && decide (n ≤ b)) := by
 unfold qk.f
 by_cases h : a ≤ n
 ·rw [if_pos (show n ≥ a from h), decide_eq_true h, Bool.true_and]
 ·rw [if_neg (show ¬ n ≥ a from h), decide_eq_false h, Bool.false_and]
def optI (f : Nat → Int) : Option Nat → Int
 | some j => f j
 | none => -1
theorem cell_ix : ∀ w : Nat, w < 7 → ∀ u : Nat, u < w → ∀ t : Nat, t < 6 → (t * w + u < 100 ∧ wrap64 (wrap64 ((t : Int) * (w : Int)) + (u : Int)) = ((t * w + u : Nat) : Int)) := by decide +kernel
theorem neStep_is (w h : Nat) (hw0 : 0 < w) (hw : w ≤ 6) (hh : h ≤ 6) (F : List UInt8) (hF : F.length = w * h) (i d : Nat) (hi : i < w * h) (hd : d < 4) :
  qVA.f (w : Int) (h : Int) (nums F) (i : Int) (d : Int) = some (optI (fun j => (j : Int)) (stepG w h F d i)) := by
 have hm := Nat.mod_lt i hw0
 have hq : i / w < h := by rw [Nat.div_lt_iff_lt_mul hw0, Nat.mul_comm]; exact hi
 have hc : cellAt w i = ⟨((i % w : Nat) : Int), ((i / w : Nat) : Int)⟩ := rfl
 unfold qVA.f
 rw [if_neg (nz_of hw0), tmodN, tdivN, w64_small _ (Nat.lt_of_lt_of_le hq (Nat.le_trans hh (by decide)))]
 unfold stepG
 rw [hc]
 clear hi hc
 generalize i % w = x at hm ⊢
 generalize i / w = y at hq ⊢
 have hb := boNext_is ⟨(x : Int), (y : Int)⟩ d hd ⟨by show -100 ≤ (x : Int); omega, by show (x : Int) ≤ 100; omega⟩ ⟨by show -100 ≤ (y : Int); omega, by show (y : Int) ≤ 100; omega⟩
 have hn : -1 ≤ (nextC ⟨(x : Int), (y : Int)⟩ d).f0 ∧ (nextC ⟨(x : Int), (y : Int)⟩ d).f0 ≤ 7 ∧ -1 ≤ (nextC ⟨(x : Int), (y : Int)⟩ d).f1 ∧ (nextC ⟨(x : Int), (y : Int)⟩ d).f1 ≤ 7 := by
  obtain rfl | rfl | rfl | rfl : d = 0 ∨ d = 1 ∨ d = 2 ∨ d = 3 := by omega
  all_goals simp [nextC]; omega
 generalize nextC ⟨(x : Int), (y : Int)⟩ d = c at hb hn ⊢
 have hb2 : qz.f (x : Int) (y : Int) (d : Int) = some (c.f0, c.f1) := hb
 rw [hb2]
 clear hb hb2 hm hq
 have w1 : wrap64 ((w : Int) - 1) = (w : Int) - 1 := by clear hF; unfold wrap64; omega
 have w2 : wrap64 ((h : Int) - 1) = (h : Int) - 1 := by clear hF; unfold wrap64; omega
 simp only [Option.bind_some, l1In_is, w1, w2]
 by_cases c1 : 0 ≤ c.f0 ∧ c.f0 < (w : Int)
 ·rw [if_pos (show (decide (0 ≤ c.f0) && decide (c.f0 ≤ (w : Int) - 1)) = true by rw [decide_eq_true c1.1, decide_eq_true (by omega)]; rfl)]
  by_cases c2 : 0 ≤ c.f1 ∧ c.f1 < (h : Int)
  ·rw [if_pos (show (decide (0 ≤ c.f1) && decide (c.f1 ≤ (h : Int) - 1)) = true by rw [decide_eq_true c2.1, decide_eq_true (by omega)]; rfl), if_pos (show 0 ≤ c.f0 ∧ c.f0 < (w : Int) ∧ 0 ≤ c.f1 ∧ c.f1 < (h : Int) from ⟨c1.1, c1.2, c2.1, c2.2⟩)]
   obtain ⟨u, hu⟩ : ∃ u : Nat, c.f0 = (u : Int) := ⟨c.f0.toNat, by omega⟩
   obtain ⟨t, ht⟩ : ∃ t : Nat, c.f1 = (t : Int) := ⟨c.f1.toNat, by omega⟩
   rw [hu, ht, Int.toNat_natCast, Int.toNat_natCast]
   have hul : u < w := by omega
   have htl : t < h := by omega
   obtain ⟨x2, x3⟩ := cell_ix w (Nat.lt_succ_of_le hw) u hul t (Nat.lt_of_lt_of_le htl hh)
   have x1 : t * w + u < w * h := by
    have h1 : (t + 1) * w ≤ h * w := Nat.mul_le_mul_right w htl
    rw [Nat.add_mul, Nat.one_mul, Nat.mul_comm h w] at h1
    exact Nat.lt_of_lt_of_le (Nat.add_lt_add_left hul _) h1
   have hlt : t * w + u < F.length := hF ▸ x1
   rw [x3]
   clear x1 x2 x3 hF
   generalize t * w + u = p at hlt ⊢
   rw [if_pos (Int.natCast_nonneg _), if_pos (show (p : Int) < ((nums F).length : Int) by unfold nums; rw [List.length_map]; exact Int.ofNat_lt.2 hlt), rdNums F p hlt]
   rw [List.getElem?_eq_getElem hlt]
   by_cases h46 : F[p] = 46
   ·rw [if_pos (by rw [h46]; rfl), if_pos (by rw [h46])]
    rfl
   ·rw [if_neg (show ¬ ((F[p].toNat : Int) = 46) from fun e => h46 ((nr_u8 _ 46 (by decide)).1 e)), if_neg (fun e => h46 (Option.some.inj e))]
    rfl
  ·rw [if_neg (show ¬ (decide (0 ≤ c.f1) && decide (c.f1 ≤ (h : Int) - 1)) = true by simp only [Bool.and_eq_true, decide_eq_true_eq]; omega), if_neg (show ¬ (0 ≤ c.f0 ∧ c.f0 < (w : Int) ∧ 0 ≤ c.f1 ∧ c.f1 < (h : Int)) from fun q => c2 ⟨q.2.2.1, q.2.2.2⟩)]
   rfl
 ·rw [if_neg (show ¬ (decide (0 ≤ c.f0) && decide (c.f0 ≤ (w : Int) - 1)) = true by simp only [Bool.and_eq_true, decide_eq_true_eq]; omega), if_neg (show ¬ (0 ≤ c.f0 ∧ c.f0 < (w : Int) ∧ 0 ≤ c.f1 ∧ c.f1 < (h : Int)) from fun q => c1 ⟨q.1, q.2.1⟩)]
  rfl
abbrev keysN (L : List (Nat × Fnd)) : List Nat := L.map Prod.fst
structure OkN (D : List Nat) (L : List (Nat × Fnd)) : Prop where
 nodup : (keysN L).Nodup
 mem : ∀ e ∈ L, e.1 ∈ D
 far : ∀ (j : Nat) (e : Nat × Fnd), L[j]? = some e → e.2.2 ≤ j
theorem OkN.len {D : List Nat} {L : List (Nat × Fnd)} (h : OkN D L) : L.length ≤ D.length := by
 have := Bfs.qOB (U := D) h.nodup (fun i hi => by
  obtain ⟨e, he, rfl⟩ := List.mem_map.1 hi
  exact h.mem e he)
 rwa [List.length_map] at this
theorem OkN.new {D : List Nat} {L : List (Nat × Fnd)} (h : OkN D L) {i j at_ : Nat} {v : Fnd} (hat : L[at_]? = some (i, v)) (hj : j ∈ D) (hn : ¬ j ∈ keysN L) (x : DD) : OkN D (L ++ [(j, (x, v.2 + 1))]) := by
 have hal := (List.getElem?_eq_some_iff.1 hat).1
 have hv := h.far at_ _ hat
 have e := Bfs.qIC hn (x, v.2 + 1)
 refine ⟨?_, ?_, ?_⟩
 ·rw [← e]; exact Bfs.qUC h.nodup _ _
 ·intro y hy
  rcases List.mem_append.1 hy with hy | hy
  ·exact h.mem y hy
  ·rw [List.mem_singleton] at hy; subst hy; exact hj
 ·intro q y hy
  by_cases hq : q < L.length
  ·rw [List.getElem?_append_left hq] at hy
   exact h.far q y hy
  ·rw [List.getElem?_append_right (by omega)] at hy
   have hq2 : q - L.length = 0 := by
    rcases Nat.eq_zero_or_pos (q - L.length) with h0 | h0
    ·exact h0
    ·rw [List.getElem?_eq_none (by simp; omega)] at hy; cases hy
   rw [hq2] at hy
   simp at hy
   subst hy
   show v.2 + 1 ≤ q
   have hv2 : v.2 ≤ at_ := hv
   omega
theorem OkN.start {D : List Nat} {i : Nat} (h : i ∈ D) (x : DD) : OkN D [(i, (x, 0))] :=
 ⟨by simp, fun e he => by rw [List.mem_singleton] at he; subst he; exact h, fun j e he => by
  cases j with
  | zero => simp at he; subst he; exact Nat.le_refl _
  | succ j => simp at he⟩
theorem rdTab {γ : Type} (g : Option Fnd → Int) (U : List Nat) (L : List (Nat × Fnd)) (k : Nat) (h : k < U.length) : rd (tabU g U L) (k : Int) = g (look L U[k]) := by
 unfold rd
 rw [Int.toNat_natCast, List.getD_eq_getElem?_getD, qPC g U L k h]; rfl
theorem qmB {L : List (Nat × Fnd)} {i : Nat} : farG (look L i) < 0 ↔ ¬ i ∈ keysN L := by
 constructor
 ·intro h hm
  obtain ⟨v, hv, _⟩ := qXC hm
  rw [hv] at h
  have h2 : (v.2 : Int) < 0 := h
  omega
 ·intro h
  rw [qDC h]; decide
theorem quB (l : List Nat) (i : Nat) : ints l ++ [(i : Int)] = ints (l ++ [i]) := by unfold ints; rw [List.map_append]; rfl
theorem keys_append (L : List (Nat × Fnd)) (i : Nat) (v : Fnd) : keysN (L ++ [(i, v)]) = keysN L ++ [i] := by simp [keysN]
theorem keys_get {L : List (Nat × Fnd)} {j : Nat} {i : Nat} {v : Fnd} (h : L[j]? = some (i, v)) (hl : j < (keysN L).length) : (keysN L)[j] = i := by
 have : (keysN L)[j]? = some i := by rw [List.getElem?_map, h]; rfl
 rw [List.getElem?_eq_getElem hl] at this
 exact Option.some.inj this
section
variable (w h : Nat) (F : List UInt8)
theorem far_steps (hw0 : 0 < w) (hw : w ≤ 6) (hh : h ≤ 6) (hF : F.length = w * h) (R : List Int) (at_ : Nat) (i : Nat) (v : Fnd) : ∀ (n d : Nat) (L : List (Nat × Fnd)), d + n = 4 → L[at_]? = some (i, v) → OkN (idxFrom 0 F) L →
  Ev (fun k => qS.l1 k (ints (keysN (Bfs.puts L (stepsN w h F i v n d)))) ((at_ + 1 : Nat) : Int) (tabU farG (List.range F.length) (Bfs.puts L (stepsN w h F i v n d))) (w : Int) (h : Int) (nums F)) R →
  Ev (fun k => qS.l2 k (ints (keysN L)) (at_ : Int) (d : Int) (tabU farG (List.range F.length) L) (w : Int) (h : Int) (nums F)) R := by
 have h36 : F.length ≤ 36 := hF ▸ (Nat.mul_le_mul hw hh : w * h ≤ 6 * 6)
 have hDl := qrA F 0
 intro n
 induction n with
 | zero =>
  intro d L hd hat hok hR
  have hal := (List.getElem?_eq_some_iff.1 hat).1
  have hlen := hok.len
  have w1 := qdA at_ (by omega)
  have a1 : ¬ (d : Int) < 4 := by omega
  refine Ev.step (f := fun k => _) (fun k => by rw [qS.l2]) ?_
  rw [w1]
  exact Ev.neg a1 hR
 | succ n ih =>
  intro d L hd hat hok hR
  have hal := (List.getElem?_eq_some_iff.1 hat).1
  have hlen := hok.len
  have w1 := qdA d (by omega)
  have a1 : (d : Int) < 4 := by omega
  have hkl : at_ < (keysN L).length := by rw [List.length_map]; exact hal
  have a3 : (at_ : Int) < ((ints (keysN L)).length : Int) := by rw [qkA]; exact Int.ofNat_lt.2 hkl
  have hr : rd (ints (keysN L)) (at_ : Int) = (i : Int) := by rw [rdInts _ _ hkl, keys_get hat hkl]
  have hiD : i ∈ idxFrom 0 F := hok.mem _ (List.mem_of_getElem? hat)
  have hiF : i < F.length := by
   obtain ⟨_, c, hc, _⟩ := (qWA F 0 i).1 hiD
   have := (List.getElem?_eq_some_iff.1 hc).1
   omega
  have hstep := neStep_is w h hw0 hw hh F hF i d (hF ▸ hiF) (by omega)
  have htl : (tabU farG (List.range F.length) L).length = F.length := by rw [qoA, List.length_range]
  have hlk := qiC hok.nodup hat
  have hv : v.2 ≤ at_ := hok.far at_ _ hat
  have hq : (ints (keysN L)).length < 17592186044416 := by rw [qkA, List.length_map]; omega
  rw [stepsN, Bfs.puts] at hR
  refine Ev.step (f := fun k => _) (fun k => by rw [qS.l2]) ?_
  rw [w1]
  refine Ev.pos a1 (Ev.pos (Int.natCast_nonneg _) (Ev.pos a3 ?_))
  rw [hr]
  refine Ev.bindc hstep ?_
  cases hs : stepG w h F d i with
  | none =>
   rw [hs] at hR
   exact Ev.neg (by decide) (ih (d + 1) L (by omega) hat hok hR)
  | some j =>
   obtain ⟨hjD, _⟩ := qNB hF hw0 hs
   have hjF : j < F.length := by
    obtain ⟨_, c, hc, _⟩ := (qWA F 0 j).1 hjD
    have := (List.getElem?_eq_some_iff.1 hc).1
    omega
   have hjr : j < (List.range F.length).length := by rw [List.length_range]; exact hjF
   have hir : i < (List.range F.length).length := by rw [List.length_range]; exact hiF
   have hrj : rd (tabU farG (List.range F.length) L) (j : Int) = farG (look L j) := by rw [rdTab (γ := Unit) farG _ L j hjr, List.getElem_range]
   have hri : rd (tabU farG (List.range F.length) L) (i : Int) = (v.2 : Int) := by rw [rdTab (γ := Unit) farG _ L i hir, List.getElem_range, hlk]; rfl
   have b1 : (j : Int) < ((tabU farG (List.range F.length) L).length : Int) := by rw [htl]; exact Int.ofNat_lt.2 hjF
   have b2 : (i : Int) < ((tabU farG (List.range F.length) L).length : Int) := by rw [htl]; exact Int.ofNat_lt.2 hiF
   refine Ev.pos (show (optI (fun j => (j : Int)) (some j)) ≥ 0 from Int.natCast_nonneg _) (Ev.pos (Int.natCast_nonneg _) (Ev.pos b1 ?_))
   show Ev (fun k => if rd (tabU farG (List.range F.length) L) (j : Int) < 0 then _ else _) R
   rw [hrj]
   rw [hs] at hR
   by_cases hm : j ∈ keysN L
   ·rw [Bfs.qVC hm] at hR
    exact Ev.neg (fun hn => (qmB.1 hn) hm) (ih (d + 1) L (by omega) hat hok hR)
   ·rw [Bfs.qIC hm] at hR
    refine Ev.pos (qmB.2 hm) (Ev.pos (Int.natCast_nonneg _) (Ev.pos b2 (Ev.pos hq ?_)))
    show Ev (fun k => qS.l2 k (ints (keysN L) ++ [(j : Int)]) (at_ : Int) ((d + 1 : Nat) : Int) ((tabU farG (List.range F.length) L).set ((j : Int)).toNat (wrap64 (rd (tabU farG (List.range F.length) L) (i : Int) + 1))) (w : Int) (h : Int) (nums F)) R
    have w3 := qdA v.2 (by omega)
    have hset := qIB farG (List.range F.length) List.nodup_range L j hjr (rolD v.1 d, v.2 + 1) (by rw [List.getElem_range]; exact hm)
    rw [List.getElem_range] at hset
    rw [hri, w3, Int.toNat_natCast, show ((v.2 + 1 : Nat) : Int) = farG (some (rolD v.1 d, v.2 + 1)) from rfl, hset, quB, ← keys_append L j (rolD v.1 d, v.2 + 1)]
    exact ih (d + 1) _ (by omega) (by rw [List.getElem?_append_left hal]; exact hat) (hok.new hat hjD hm _) hR
theorem okN_puts (hw0 : 0 < w) (hF : F.length = w * h) (at_ i : Nat) (v : Fnd) : ∀ (n d : Nat) (L : List (Nat × Fnd)), L[at_]? = some (i, v) → OkN (idxFrom 0 F) L → OkN (idxFrom 0 F) (Bfs.puts L (stepsN w h F i v n d)) := by
 intro n
 induction n with
 | zero => intro d L _ hok; exact hok
 | succ n ih =>
  intro d L hat hok
  rw [stepsN, Bfs.puts]
  cases hs : stepG w h F d i with
  | none => exact ih (d + 1) L hat hok
  | some j =>
   by_cases hm : j ∈ keysN L
   ·rw [Bfs.qVC hm]; exact ih (d + 1) L hat hok
   ·rw [Bfs.qIC hm]
    exact ih (d + 1) _ (by rw [List.getElem?_append_left (List.getElem?_eq_some_iff.1 hat).1]; exact hat) (hok.new hat (qNB hF hw0 hs).1 hm _)
theorem qWC (hw0 : 0 < w) (hF : F.length = w * h) {at_ : Nat} {L : List (Nat × Fnd)} (hok : OkN (idxFrom 0 F) L) : OkN (idxFrom 0 F) (Bfs.round (nextN w h F) at_ L) := by
 unfold Bfs.round
 cases hx : L[at_]? with
 | none => exact hok
 | some x => exact okN_puts w h F hw0 hF at_ x.1 x.2 4 0 L hx hok
theorem far_run (hw0 : 0 < w) (hw : w ≤ 6) (hh : h ≤ 6) (hF : F.length = w * h) : ∀ (n at_ : Nat) (L : List (Nat × Fnd)), OkN (idxFrom 0 F) L → (idxFrom 0 F).length ≤ at_ + n →
  Ev (fun k => qS.l1 k (ints (keysN L)) (at_ : Int) (tabU farG (List.range F.length) L) (w : Int) (h : Int) (nums F)) (tabU farG (List.range F.length) (Bfs.run (nextN w h F) n at_ L)) := by
 intro n
 induction n with
 | zero =>
  intro at_ L hok hn
  have hl := hok.len
  refine Ev.step (f := fun k => _) (fun k => by rw [qS.l1]) ?_
  refine Ev.neg (by rw [qkA, List.length_map]; omega) (Ev.now _)
 | succ n ih =>
  intro at_ L hok hn
  have hl := hok.len
  refine Ev.step (f := fun k => _) (fun k => by rw [qS.l1]) ?_
  by_cases hat : at_ < L.length
  ·have hx : L[at_]? = some L[at_] := List.getElem?_eq_getElem hat
   rw [Bfs.run, if_pos hat]
   have hro : Bfs.round (nextN w h F) at_ L = Bfs.puts L (stepsN w h F L[at_].1 L[at_].2 4 0) := by unfold Bfs.round; rw [hx]; rfl
   have := ih (at_ + 1) (Bfs.round (nextN w h F) at_ L) (qWC w h F hw0 hF hok) (by omega)
   refine Ev.pos (by rw [qkA, List.length_map]; omega) ?_
   refine far_steps w h F hw0 hw hh hF _ at_ L[at_].1 L[at_].2 4 0 L rfl hx hok ?_
   rw [← hro]
   exact this
  ·rw [Bfs.run, if_neg hat]
   exact Ev.neg (by rw [qkA, List.length_map]; omega) (Ev.now _)
def runN_ (i0 : Nat) : List (Nat × Fnd) := Bfs.run (nextN w h F) 36 0 [(i0, (plainD, 0))]
theorem far_fill (N : Nat) (hN : N ≤ 36) (R : List Int) : ∀ (d i : Nat), i + d = N →
  (Ev (fun k => qS.l0 k (List.replicate N (-1)) (N : Int) (N : Int) (w : Int) (h : Int) (nums F)) R) →
  Ev (fun k => qS.l0 k (List.replicate i (-1) ++ List.replicate d 0) (N : Int) (i : Int) (w : Int) (h : Int) (nums F)) R
 | 0, i, hd, hR => by
  obtain rfl : i = N := by omega
  rw [List.replicate_zero, List.append_nil]; exact hR
 | d + 1, i, hd, hR => by
  have ih := far_fill N hN R d (i + 1) (by omega) hR
  have w1 := qdA i (by omega)
  have e : (List.replicate i (-1 : Int) ++ List.replicate (d + 1) (0 : Int)).set i (-1) = List.replicate (i + 1) (-1 : Int) ++ List.replicate d (0 : Int) := by
   rw [List.set_append_right _ _ (by rw [List.length_replicate]; exact Nat.le_refl _), List.length_replicate, Nat.sub_self, List.replicate_succ, List.set_cons_zero, List.replicate_succ', List.append_assoc]; rfl
  refine Ev.step (f := fun k => _) (fun k => by rw [qS.l0]) ?_
  refine Ev.pos (by omega) (Ev.pos (by omega) (Ev.pos (by simp; omega) ?_))
  rw [w1, Int.toNat_natCast, e]
  exact ih
theorem qxB (g : Option Fnd → Int) (z : Int) (hz : g none = z) (U : List Nat) (hU : U.Nodup) (k : Nat) (hk : k < U.length) (v : Fnd) : (List.replicate U.length z).set k (g (some v)) = tabU g U [(U[k], v)] := by
 have h0 : List.replicate U.length z = tabU g U [] := by
  unfold tabU
  have : (fun i => g (look [] i)) = fun _ => z := by funext i; exact hz
  rw [this, List.map_const']
 rw [h0, qIB g U hU [] k hk v (by simp), List.nil_append]
theorem neFar_ev (hw0 : 0 < w) (hw : w ≤ 6) (hh : h ≤ 6) (hF : F.length = w * h) (i0 : Nat) (D' : List Nat) (hD : idxFrom 0 F = i0 :: D') :
  Ev (fun k => qS.f k (w : Int) (h : Int) (nums F)) (tabU farG (List.range F.length) (runN_ w h F i0)) := by
 have h36 : F.length ≤ 36 := hF ▸ (Nat.mul_le_mul hw hh : w * h ≤ 6 * 6)
 have hn : (nums F).length = F.length := List.length_map _
 have hi0 : i0 ∈ idxFrom 0 F := by rw [hD]; exact List.mem_cons_self
 have hiF : i0 < F.length := by
  obtain ⟨_, c, hc, _⟩ := (qWA F 0 i0).1 hi0
  have := (List.getElem?_eq_some_iff.1 hc).1
  omega
 have hDl := qrA F 0
 unfold qS.f
 rw [hn]
 refine Ev.pos (Int.natCast_nonneg _) (Ev.pos (by rw [Int.toNat_natCast]; omega) (Ev.bindc rfl ?_))
 rw [Int.toNat_natCast, List.length_replicate]
 have hfill := far_fill w h F F.length h36 (tabU farG (List.range F.length) (runN_ w h F i0)) F.length 0 (by omega)
 rw [List.replicate_zero, List.nil_append] at hfill
 refine hfill ?_
 refine Ev.step (f := fun k => _) (fun k => by rw [qS.l0]) ?_
 refine Ev.neg (by omega) (Ev.bind (qtB _ _ F (by omega)) ?_)
 have e0 : rd (ints (idxFrom 0 F)) 0 = (i0 : Int) := by rw [hD]; rfl
 have e1 : (ints (idxFrom 0 F)).length = D'.length + 1 := by rw [qkA, hD, List.length_cons]
 rw [e0]
 refine Ev.neg (by rw [e1]; omega) (Ev.pos (by rw [e1]; omega) (Ev.pos (Int.natCast_nonneg _) (Ev.pos (by rw [List.length_replicate]; exact Int.ofNat_lt.2 hiF) ?_)))
 have hst := qxB farG (-1) rfl (List.range F.length) List.nodup_range i0 (by rw [List.length_range]; exact hiF) (plainD, 0)
 simp only [List.length_range, List.getElem_range] at hst
 rw [Int.toNat_natCast, show (0 : Int) = farG (some (plainD, 0)) from rfl, hst]
 exact far_run w h F hw0 hw hh hF 36 0 _ (OkN.start hi0 plainD) (by omega)
end
theorem rdCC (P : List CC) (s : Nat) (h : s < P.length) : qBA P (s : Int) = P[s] := by
 unfold qBA
 rw [Int.toNat_natCast, List.getD_eq_getElem?_getD, List.getElem?_eq_getElem h]; rfl
theorem cc_eq (c e : CC) : ((c.f0 == e.f0 && (c.f1 == e.f1)) = true) ↔ e = c := by
 obtain ⟨a, b⟩ := c
 obtain ⟨a', b'⟩ := e
 simp only [Bool.and_eq_true, beq_iff_eq]
 constructor
 ·rintro ⟨h1, h2⟩
  have h1' : a = a' := h1
  have h2' : b = b' := h2
  rw [h1', h2']
 ·intro h
  injection h with h1 h2
  exact ⟨h1.symm, h2.symm⟩
theorem small_of {x : Nat} (h : x < 6) : -100 ≤ (x : Int) ∧ (x : Int) ≤ 100 := ⟨by omega, by omega⟩
theorem place_miss (P : List CC) (hP : P.length ≤ 100) (c : CC) : ∀ (d q : Nat), q + d = P.length → (∀ (s : Nat) (hs : s < P.length), q ≤ s → P[s] ≠ c) → Ev (fun k => qP.l0 k P (P.length : Int) (q : Int) c.f0 c.f1) (-1) := by
 intro d
 induction d with
 | zero =>
  intro q hq hn
  have a1 : ¬ (q : Int) < (P.length : Int) := by omega
  refine Ev.step (f := fun k => _) (fun k => by rw [qP.l0]) ?_
  exact Ev.neg a1 (Ev.now _)
 | succ d ih =>
  intro q hq hn
  have hl : q < P.length := by omega
  have a1 : (q : Int) < (P.length : Int) := by omega
  have w1 := qdA q (by omega)
  refine Ev.step (f := fun k => _) (fun k => by rw [qP.l0]) ?_
  rw [w1, rdCC P q hl]
  refine Ev.pos a1 (Ev.pos (Int.natCast_nonneg _) (Ev.pos a1 (Ev.neg (fun e => hn q hl (Nat.le_refl _) ((cc_eq _ _).1 e)) ?_)))
  exact ih (q + 1) (by omega) (fun s hs h => hn s hs (by omega))
theorem place_hit (P : List CC) (hP : P.length ≤ 100) (c : CC) (t : Nat) (ht : t < P.length) (hc : P[t] = c) : ∀ (d q : Nat), q + d = t → (∀ (s : Nat) (hs : s < P.length), q ≤ s → s < t → P[s] ≠ c) → Ev (fun k => qP.l0 k P (P.length : Int) (q : Int) c.f0 c.f1) (t : Int) := by
 intro d
 induction d with
 | zero =>
  intro q hq hn
  obtain rfl : q = t := by omega
  have a1 : (q : Int) < (P.length : Int) := by omega
  refine Ev.step (f := fun k => _) (fun k => by rw [qP.l0]) ?_
  rw [rdCC P q ht]
  exact Ev.pos a1 (Ev.pos (Int.natCast_nonneg _) (Ev.pos a1 (Ev.pos ((cc_eq _ _).2 hc) (Ev.now _))))
 | succ d ih =>
  intro q hq hn
  have hl : q < P.length := by omega
  have a1 : (q : Int) < (P.length : Int) := by omega
  have w1 := qdA q (by omega)
  refine Ev.step (f := fun k => _) (fun k => by rw [qP.l0]) ?_
  rw [w1, rdCC P q hl]
  refine Ev.pos a1 (Ev.pos (Int.natCast_nonneg _) (Ev.pos a1 (Ev.neg (fun e => hn q hl (Nat.le_refl _) (by omega) ((cc_eq _ _).1 e)) ?_)))
  exact ih (q + 1) (by omega) (fun s hs h1 h2 => hn s hs (by omega) h2)
section
variable (w h : Nat) (F : List UInt8)
abbrev dgs : List Nat := idxFrom 0 F
def pcs : List CC := (dgs F).map (cellAt w)
def posN (i : Nat) : Nat := (dgs F).idxOf i
theorem qbC {i : Nat} (hi : i ∈ dgs F) : posN F i < (dgs F).length := List.idxOf_lt_length_of_mem hi
theorem qRB {i : Nat} (hi : i ∈ dgs F) : (dgs F)[posN F i]'(qbC F hi) = i := List.getElem_idxOf _
theorem place_is (hw0 : 0 < w) (hw : w ≤ 6) (hh : h ≤ 6) (hF : F.length = w * h) (i d : Nat) : Ev (fun k => qLA.f k (pcs w F) (nextC (cellAt w i) d).f0 (nextC (cellAt w i) d).f1) (optI (fun j => (posN F j : Int)) (stepG w h F d i)) := by
 have h36 : F.length ≤ 36 := hF ▸ (Nat.mul_le_mul hw hh : w * h ≤ 6 * 6)
 have hDl : (dgs F).length ≤ F.length := qrA F 0
 have hPl : (pcs w F).length = (dgs F).length := List.length_map _
 unfold qLA.f qP.f
 have hget : ∀ (s : Nat) (hs : s < (pcs w F).length), (pcs w F)[s] = cellAt w ((dgs F)[s]'(by rw [← hPl]; exact hs)) := fun s hs => List.getElem_map _
 refine Ev.bind (r := optI (fun j => (posN F j : Int)) (stepG w h F d i)) (a := optI (fun j => (posN F j : Int)) (stepG w h F d i)) ?_ (Ev.now _)
 cases hs : stepG w h F d i with
 | none =>
  have hn := stepG_none hF hw0 hs
  exact place_miss (pcs w F) (by omega) _ (pcs w F).length 0 (by omega) (fun s hs _ => by rw [hget s hs]; exact hn _ (List.getElem_mem _))
 | some j =>
  obtain ⟨hj, hc⟩ := qNB hF hw0 hs
  have ht := qbC F hj
  refine place_hit (pcs w F) (by omega) _ (posN F j) (by rw [hPl]; exact ht) (by rw [hget, qRB F hj]; exact hc) (posN F j) 0 (by omega) (fun s hs _ hst => ?_)
  rw [hget s hs, ← hc]
  intro e
  have e2 := cellAt_inj hw0 e
  have e3 := qRB F hj
  have := (List.getElem_inj (qfB F 0)).1 (e2.trans e3.symm)
  omega
def poss (L : List (Nat × Fnd)) : List Nat := (keysN L).map (posN F)
theorem poss_append (L : List (Nat × Fnd)) (j : Nat) (v : Fnd) : poss F (L ++ [(j, v)]) = poss F L ++ [posN F j] := by simp [poss, keysN]
theorem rdTabD (U : List Nat) (L : List (Nat × Fnd)) (k : Nat) (h : k < U.length) : qZ (tabU dieG U L) (k : Int) = dieG (look L U[k]) := by
 unfold qZ
 rw [Int.toNat_natCast, List.getD_eq_getElem?_getD, qPC dieG U L k h]; rfl
theorem fold_steps (hw0 : 0 < w) (hw : w ≤ 6) (hh : h ≤ 6) (hF : F.length = w * h) (R : List Int × List Int) (at_ : Nat) (i : Nat) (v : Fnd) : ∀ (n d : Nat) (L : List (Nat × Fnd)), d + n = 4 → L[at_]? = some (i, v) → OkN (dgs F) L →
  Ev (fun k => qF.l1 k (pcs w F) (ints (poss F (Bfs.puts L (stepsN w h F i v n d)))) ((at_ + 1 : Nat) : Int) (tabU botI (dgs F) (Bfs.puts L (stepsN w h F i v n d))) (tabU farG (dgs F) (Bfs.puts L (stepsN w h F i v n d))) (tabU dieG (dgs F) (Bfs.puts L (stepsN w h F i v n d)))) R →
  Ev (fun k => qF.l2 k (pcs w F) (ints (poss F L)) (at_ : Int) (posN F i : Int) (tabU botI (dgs F) L) (tabU farG (dgs F) L) (tabU dieG (dgs F) L) (d : Int)) R := by
 have h36 : F.length ≤ 36 := hF ▸ (Nat.mul_le_mul hw hh : w * h ≤ 6 * 6)
 have hDl : (dgs F).length ≤ F.length := qrA F 0
 have hPl : (pcs w F).length = (dgs F).length := List.length_map _
 have hU := qfB F 0
 intro n
 induction n with
 | zero =>
  intro d L hd hat hok hR
  have hal := (List.getElem?_eq_some_iff.1 hat).1
  have hlen := hok.len
  have w1 := qdA at_ (by omega)
  have a1 : ¬ (d : Int) < 4 := by omega
  refine Ev.step (f := fun k => _) (fun k => by rw [qF.l2]) ?_
  rw [w1]
  exact Ev.neg a1 hR
 | succ n ih =>
  intro d L hd hat hok hR
  have hal := (List.getElem?_eq_some_iff.1 hat).1
  have hlen := hok.len
  have hd4 : d < 4 := by clear hPl hDl h36 hF hlen; omega
  have hd5 : d + 1 + n = 4 := by clear hPl hDl h36 hF hlen; omega
  have hLs : L.length ≤ 36 := Nat.le_trans hlen (Nat.le_trans hDl h36)
  have hat36 : at_ < 36 := Nat.lt_of_lt_of_le hal hLs
  have w1 := qdA d (Nat.lt_trans hd4 (by decide))
  have a1 : (d : Int) < 4 := Int.ofNat_lt.2 hd4
  have hiD : i ∈ dgs F := hok.mem _ (List.mem_of_getElem? hat)
  have hil := qbC F hiD
  have a2 : (posN F i : Int) < ((pcs w F).length : Int) := by rw [hPl]; exact Int.ofNat_lt.2 hil
  have hlk := qiC hok.nodup hat
  have hv : v.2 ≤ at_ := hok.far at_ _ hat
  have w3 := qdA v.2 (Nat.lt_of_le_of_lt hv (Nat.lt_trans hat36 (by decide)))
  have hq : (ints (poss F L)).length < 17592186044416 := by
   have e : (ints (poss F L)).length = L.length := by rw [qkA]; unfold poss; rw [List.length_map, List.length_map]
   rw [e]; exact Nat.lt_of_le_of_lt hLs (by decide)
  have hcell : qBA (pcs w F) (posN F i : Int) = cellAt w i := by
   have hg : (pcs w F)[posN F i]? = some (cellAt w i) := by unfold pcs; rw [List.getElem?_map, List.getElem?_eq_getElem hil, qRB F hiD]; rfl
   have hil2 : posN F i < (pcs w F).length := by rw [hPl]; exact hil
   rw [List.getElem?_eq_getElem hil2] at hg
   rw [rdCC _ _ hil2]
   exact Option.some.inj hg
  have hiF : i < w * h := by
   obtain ⟨_, c, hc, _⟩ := (qWA F 0 i).1 hiD
   have := (List.getElem?_eq_some_iff.1 hc).1
   rw [← hF]; rwa [Nat.sub_zero] at this
  have hm := Nat.mod_lt i hw0
  have hqh : i / w < h := by rw [Nat.div_lt_iff_lt_mul hw0, Nat.mul_comm]; exact hiF
  have hnx : qCB.f (cellAt w i).f0 (cellAt w i).f1 (bt (⟨#[110, 101, 115, 119]⟩ : ByteArray) (d : Int)) = some ((nextC (cellAt w i) d).f0, (nextC (cellAt w i) d).f1) := by
   refine next_is (cellAt w i) d hd4 ?_ ?_
   ·exact small_of (Nat.lt_of_lt_of_le hm hw)
   ·exact small_of (Nat.lt_of_lt_of_le hqh hh)
  clear hm hqh hiF
  have hpl := place_is w h F hw0 hw hh hF i d
  have t1 : (tabU botI (dgs F) L).length = (dgs F).length := qoA _ _ _
  have t2 : (tabU farG (dgs F) L).length = (dgs F).length := qoA _ _ _
  have t3 : (tabU dieG (dgs F) L).length = (dgs F).length := qoA _ _ _
  have hri : rd (tabU farG (dgs F) L) (posN F i : Int) = (v.2 : Int) := by rw [rdTab (γ := Unit) farG _ L _ hil, qRB F hiD, hlk]; rfl
  have hrd : qZ (tabU dieG (dgs F) L) (posN F i : Int) = v.1 := by rw [rdTabD _ L _ hil, qRB F hiD, hlk]; rfl
  have hro := roll_is v.1 d hd4
  rw [stepsN, Bfs.puts] at hR
  refine Ev.step (f := fun k => _) (fun k => by rw [qF.l2]) ?_
  rw [w1, hcell]
  refine Ev.pos a1 (Ev.pos (Int.natCast_nonneg _) (Ev.pos a2 (Ev.pos (Int.natCast_nonneg _) (Ev.bindc hnx (Ev.bind hpl ?_)))))
  cases hs : stepG w h F d i with
  | none =>
   rw [hs] at hR
   exact Ev.pos (show (-1 : Int) < 0 by decide) (ih (d + 1) L hd5 hat hok hR)
  | some j =>
   obtain ⟨hjD, _⟩ := qNB hF hw0 hs
   have hjl := qbC F hjD
   have hrj : rd (tabU farG (dgs F) L) (posN F j : Int) = farG (look L j) := by rw [rdTab (γ := Unit) farG _ L _ hjl, qRB F hjD]
   have b1 : (posN F j : Int) < ((tabU botI (dgs F) L).length : Int) := by rw [t1]; exact Int.ofNat_lt.2 hjl
   have b2 : (posN F j : Int) < ((tabU farG (dgs F) L).length : Int) := by rw [t2]; exact Int.ofNat_lt.2 hjl
   have b3 : (posN F j : Int) < ((tabU dieG (dgs F) L).length : Int) := by rw [t3]; exact Int.ofNat_lt.2 hjl
   have c2 : (posN F i : Int) < ((tabU farG (dgs F) L).length : Int) := by rw [t2]; exact Int.ofNat_lt.2 hil
   have c3 : (posN F i : Int) < ((tabU dieG (dgs F) L).length : Int) := by rw [t3]; exact Int.ofNat_lt.2 hil
   have n0 : ¬ (posN F j : Int) < 0 := Int.not_lt.2 (Int.natCast_nonneg _)
   rw [hs] at hR
   refine Ev.neg n0 (Ev.pos (Int.natCast_nonneg _) (Ev.pos b2 ?_))
   show Ev (fun k => if rd (tabU farG (dgs F) L) (posN F j : Int) ≥ 0 then _ else _) R
   rw [hrj]
   by_cases hm : j ∈ keysN L
   ·rw [Bfs.qVC hm] at hR
    exact Ev.pos (Int.not_lt.1 (fun hn => (qmB.1 hn) hm)) (ih (d + 1) L hd5 hat hok hR)
   ·rw [Bfs.qIC hm] at hR
    have hmn : ¬ (dgs F)[posN F j] ∈ keysN L := by rw [qRB F hjD]; exact hm
    refine Ev.neg (Int.not_le.2 (qmB.2 hm)) (Ev.pos c3 ?_)
    rw [hrd]
    refine Ev.bindc hro (Ev.pos c2 (Ev.pos b3 (Ev.pos b1 (Ev.pos hq ?_))))
    have s1 := qIB botI (dgs F) hU L (posN F j) hjl (rolD v.1 d, v.2 + 1) hmn
    have s2 := qIB farG (dgs F) hU L (posN F j) hjl (rolD v.1 d, v.2 + 1) hmn
    have s3 := qIB dieG (dgs F) hU L (posN F j) hjl (rolD v.1 d, v.2 + 1) hmn
    rw [qRB F hjD] at s1 s2 s3
    show Ev (fun k => qF.l2 k (pcs w F) (ints (poss F L) ++ [(posN F j : Int)]) (at_ : Int) (posN F i : Int) ((tabU botI (dgs F) L).set ((posN F j : Int)).toNat (botI (some (rolD v.1 d, v.2 + 1)))) ((tabU farG (dgs F) L).set ((posN F j : Int)).toNat (wrap64 (rd (tabU farG (dgs F) L) (posN F i : Int) + 1))) ((tabU dieG (dgs F) L).set ((posN F j : Int)).toNat (dieG (some (rolD v.1 d, v.2 + 1)))) ((d + 1 : Nat) : Int)) R
    rw [hri, w3, Int.toNat_natCast, show ((v.2 + 1 : Nat) : Int) = farG (some (rolD v.1 d, v.2 + 1)) from rfl, s1, s2, s3, quB, ← poss_append F L j (rolD v.1 d, v.2 + 1)]
    exact ih (d + 1) _ hd5 (by rw [List.getElem?_append_left hal]; exact hat) (hok.new hat hjD hm _) hR
theorem fold_run (hw0 : 0 < w) (hw : w ≤ 6) (hh : h ≤ 6) (hF : F.length = w * h) : ∀ (n at_ : Nat) (L : List (Nat × Fnd)), OkN (dgs F) L → (dgs F).length ≤ at_ + n →
  Ev (fun k => qF.l1 k (pcs w F) (ints (poss F L)) (at_ : Int) (tabU botI (dgs F) L) (tabU farG (dgs F) L) (tabU dieG (dgs F) L)) (tabU botI (dgs F) (Bfs.run (nextN w h F) n at_ L), tabU farG (dgs F) (Bfs.run (nextN w h F) n at_ L)) := by
 have hpl : ∀ L : List (Nat × Fnd), (ints (poss F L)).length = L.length := fun L => by rw [qkA]; unfold poss; rw [List.length_map, List.length_map]
 intro n
 induction n with
 | zero =>
  intro at_ L hok hn
  have hl := hok.len
  have a1 : ¬ (at_ : Int) < ((ints (poss F L)).length : Int) := by rw [hpl]; omega
  refine Ev.step (f := fun k => _) (fun k => by rw [qF.l1]) ?_
  exact Ev.neg a1 (Ev.now _)
 | succ n ih =>
  intro at_ L hok hn
  have hl := hok.len
  refine Ev.step (f := fun k => _) (fun k => by rw [qF.l1]) ?_
  by_cases hat : at_ < L.length
  ·have hx : L[at_]? = some L[at_] := List.getElem?_eq_getElem hat
   rw [Bfs.run, if_pos hat]
   have hro : Bfs.round (nextN w h F) at_ L = Bfs.puts L (stepsN w h F L[at_].1 L[at_].2 4 0) := by unfold Bfs.round; rw [hx]; rfl
   have := ih (at_ + 1) (Bfs.round (nextN w h F) at_ L) (qWC w h F hw0 hF hok) (by omega)
   have a1 : (at_ : Int) < ((ints (poss F L)).length : Int) := by rw [hpl]; omega
   have hr : rd (ints (poss F L)) (at_ : Int) = (posN F L[at_].1 : Int) := by
    have hp : at_ < (poss F L).length := by unfold poss; rw [List.length_map, List.length_map]; exact hat
    have hg : (poss F L)[at_]? = some (posN F L[at_].1) := by unfold poss keysN; rw [List.getElem?_map, List.getElem?_map, hx]; rfl
    rw [List.getElem?_eq_getElem hp] at hg
    rw [rdInts _ _ hp, Option.some.inj hg]
   rw [hr]
   refine Ev.pos a1 (Ev.pos (Int.natCast_nonneg _) ?_)
   refine fold_steps w h F hw0 hw hh hF _ at_ L[at_].1 L[at_].2 4 0 L rfl hx hok ?_
   rw [← hro]
   exact this
  ·have a1 : ¬ (at_ : Int) < ((ints (poss F L)).length : Int) := by rw [hpl]; omega
   rw [Bfs.run, if_neg hat]
   exact Ev.neg a1 (Ev.now _)
theorem fold_fill (P : List CC) (N : Nat) (hN : N ≤ 36) (X : List Int) (R : List Int × List Int) : ∀ (d i : Nat), i + d = N →
  (Ev (fun k => qF.l0 k P X (List.replicate N (-1)) (N : Int) (N : Int)) R) →
  Ev (fun k => qF.l0 k P X (List.replicate i (-1) ++ List.replicate d 0) (N : Int) (i : Int)) R
 | 0, i, hd, hR => by
  obtain rfl : i = N := by omega
  rw [List.replicate_zero, List.append_nil]; exact hR
 | d + 1, i, hd, hR => by
  have ih := fold_fill P N hN X R d (i + 1) (by omega) hR
  have w1 := qdA i (by omega)
  have e : (List.replicate i (-1 : Int) ++ List.replicate (d + 1) (0 : Int)).set i (-1) = List.replicate (i + 1) (-1 : Int) ++ List.replicate d (0 : Int) := by
   rw [List.set_append_right _ _ (by rw [List.length_replicate]; exact Nat.le_refl _), List.length_replicate, Nat.sub_self, List.replicate_succ, List.set_cons_zero, List.replicate_succ', List.append_assoc]; rfl
  refine Ev.step (f := fun k => _) (fun k => by rw [qF.l0]) ?_
  refine Ev.pos (by omega) (Ev.pos (by omega) (Ev.pos (by simp; omega) ?_))
  rw [w1, Int.toNat_natCast, e]
  exact ih
theorem fold_ev (hw0 : 0 < w) (hw : w ≤ 6) (hh : h ≤ 6) (hF : F.length = w * h) (i0 : Nat) (D' : List Nat) (hD : dgs F = i0 :: D') :
  Ev (fun k => qF.f k (pcs w F)) (tabU botI (dgs F) (runN_ w h F i0), tabU farG (dgs F) (runN_ w h F i0)) := by
 have h36 : F.length ≤ 36 := hF ▸ (Nat.mul_le_mul hw hh : w * h ≤ 6 * 6)
 have hDl : (dgs F).length ≤ F.length := qrA F 0
 have hPl : (pcs w F).length = (dgs F).length := List.length_map _
 have hU := qfB F 0
 have hi0 : i0 ∈ dgs F := by rw [hD]; exact List.mem_cons_self
 have hl1 : 0 < (dgs F).length := by rw [hD]; exact Nat.succ_pos _
 have h00 : (dgs F)[0] = i0 := by
  have : (dgs F)[0]? = some i0 := by rw [hD]; rfl
  rw [List.getElem?_eq_getElem hl1] at this
  exact Option.some.inj this
 have hp0 : posN F i0 = 0 := by unfold posN; rw [hD, List.idxOf_cons_self]
 unfold qF.f
 rw [hPl]
 refine Ev.pos (Int.natCast_nonneg _) (Ev.pos (by rw [Int.toNat_natCast]; omega) (Ev.bindc rfl ?_))
 rw [Int.toNat_natCast, List.length_replicate]
 have hfill := fold_fill (pcs w F) (dgs F).length (by omega) (List.replicate (dgs F).length 0) (tabU botI (dgs F) (runN_ w h F i0), tabU farG (dgs F) (runN_ w h F i0)) (dgs F).length 0 (by omega)
 rw [List.replicate_zero, List.nil_append] at hfill
 refine hfill ?_
 refine Ev.step (f := fun k => _) (fun k => by rw [qF.l0]) ?_
 rw [hPl, Int.toNat_natCast]
 have l0 : (0 : Int) < ((dgs F).length : Int) := Int.ofNat_lt.2 hl1
 have n1 : ¬ ((dgs F).length : Int) < ((dgs F).length : Int) := Int.lt_irrefl _
 refine Ev.neg n1 (Ev.pos (Int.natCast_nonneg _) (Ev.pos (by omega) (Ev.bindc rfl (Ev.bindc rfl (Ev.pos (by rw [List.length_replicate]; exact l0) (Ev.pos (by rw [List.length_replicate]; exact l0) (Ev.pos (by rw [List.length_replicate]; exact l0) ?_)))))))
 have s1 := qxB botI 0 rfl (dgs F) hU 0 hl1 (plainD, 0)
 have s2 := qxB farG (-1) rfl (dgs F) hU 0 hl1 (plainD, 0)
 have s3 : (List.replicate (dgs F).length z53).set 0 (dieG (some (plainD, 0))) = tabU dieG (dgs F) [((dgs F)[0], (plainD, 0))] := by
  have h0 : List.replicate (dgs F).length z53 = tabU dieG (dgs F) [] := by
   unfold tabU
   have : (fun i => dieG (look [] i)) = fun _ => z53 := by funext i; rfl
   rw [this, List.map_const']
  rw [h0, qIB dieG (dgs F) hU [] 0 hl1 (plainD, 0) (by simp), List.nil_append]
 rw [h00] at s1 s2 s3
 have hrun := fold_run w h F hw0 hw hh hF 36 0 _ (OkN.start hi0 plainD) (by omega)
 have e1 : ints (poss F [(i0, (plainD, 0))]) = [0] := by
  show [Int.ofNat (posN F i0)] = _
  rw [hp0]; rfl
 rw [e1] at hrun
 show Ev (fun k => qF.l1 k (pcs w F) [0] 0 ((List.replicate (dgs F).length 0).set 0 (botI (some (plainD, 0)))) ((List.replicate (dgs F).length (-1)).set 0 (farG (some (plainD, 0)))) ((List.replicate (dgs F).length z53).set 0 (dieG (some (plainD, 0))))) _
 rw [s1, s2, s3]
 exact hrun
end
theorem nsRd (l : List Int) (i : Nat) (h : i < l.length) : rd l (i : Int) = l[i] := by
 unfold rd
 rw [Int.toNat_natCast, List.getD_eq_getElem?_getD, List.getElem?_eq_getElem h]; rfl
theorem idxI_loop (l : List Int) (hl : l.length ≤ 100) (x : Int) : ∀ (d q : Nat), q + d = l.length → ∃ r : Int, (0 ≤ r ↔ x ∈ l.drop q) ∧ Ev (fun k => qY.l0 k l x (l.length : Int) (q : Int)) r := by
 intro d
 induction d with
 | zero =>
  intro q hq
  refine ⟨-1, by rw [List.drop_eq_nil_of_le (by omega)]; simp, ?_⟩
  have a1 : ¬ (q : Int) < (l.length : Int) := by omega
  refine Ev.step (f := fun k => _) (fun k => by rw [qY.l0]) ?_
  exact Ev.neg a1 (Ev.now _)
 | succ d ih =>
  intro q hq
  have hql : q < l.length := by omega
  have a1 : (q : Int) < (l.length : Int) := by omega
  have w1 := qdA q (by omega)
  obtain ⟨r, hr, he⟩ := ih (q + 1) (by omega)
  by_cases e : x = l[q]
  ·refine ⟨(q : Int), ⟨fun _ => by rw [List.drop_eq_getElem_cons hql, e]; exact List.mem_cons_self, fun _ => Int.natCast_nonneg _⟩, ?_⟩
   refine Ev.step (f := fun k => _) (fun k => by rw [qY.l0]) ?_
   rw [nsRd l q hql]
   exact Ev.pos a1 (Ev.pos (Int.natCast_nonneg _) (Ev.pos a1 (Ev.pos e (Ev.now _))))
  ·refine ⟨r, by rw [List.drop_eq_getElem_cons hql, List.mem_cons, hr]; simp [e], ?_⟩
   refine Ev.step (f := fun k => _) (fun k => by rw [qY.l0]) ?_
   rw [nsRd l q hql, w1]
   exact Ev.pos a1 (Ev.pos (Int.natCast_nonneg _) (Ev.pos a1 (Ev.neg e he)))
theorem contI_ev (l : List Int) (hl : l.length ≤ 100) (x : Int) : Ev (fun k => qd.f k l x) (decide (x ∈ l)) := by
 obtain ⟨r, hr, he⟩ := idxI_loop l hl x l.length 0 (by omega)
 rw [List.drop_zero] at hr
 unfold qd.f qY.f
 refine Ev.bind he (Ev.some_ ?_)
 exact decide_eq_decide.2 hr
def runOf (a : ByteArray) : List (Nat × Fnd) := runN_ (wideN a) (highN a) (flatN a) ((placesN a).headD 0)
def hangB (a : ByteArray) : Bool := decide (∀ i ∈ placesN a, i ∈ keysN (runOf a))
def sixB (a : ByteArray) : Bool := decide (a.size ≤ 41 ∧ fitN a) && (decide ((placesN a).length = 6) && (decide (wideN a ≤ 6) && (decide (highN a ≤ 6) && (hangB a && (decide (colsFull a) && decide (linesFull a))))))
def farOf (a : ByteArray) : List Int := tabU farG (List.range (flatN a).length) (runOf a)
theorem qsB {a : ByteArray} (h6 : (placesN a).length = 6) : placesN a = (placesN a).headD 0 :: (placesN a).tail := by
 cases h : placesN a with
 | nil => rw [h] at h6; cases h6
 | cons i l => rfl
theorem farOf_neg {a : ByteArray} (hf : fitN a) {i : Nat} (hi : i ∈ placesN a) : rd (farOf a) (i : Int) < 0 ↔ ¬ i ∈ keysN (runOf a) := by
 have hlt : i < (flatN a).length := by rw [qPB hf]; exact qUB hf i hi
 unfold farOf
 rw [rdTab (γ := Unit) farG _ _ i (by rw [List.length_range]; exact hlt), List.getElem_range]
 exact qmB
theorem specFar_ev {a : ByteArray} (hf : fitN a) (h6 : (placesN a).length = 6) (hw : wideN a ≤ 6) (hh : highN a ≤ 6) : Ev (fun k => qS.f k (wideN a : Int) (highN a : Int) (nums (flatN a))) (farOf a) :=
 neFar_ev (wideN a) (highN a) (flatN a) (Nat.pos_of_ne_zero hf.1) hw hh (qPB hf) _ _ (qsB h6)
theorem sixN_is {a : ByteArray} (hf : fitN a) (h41 : a.size ≤ 41) : sixN a (farOf a) = sixB a := by
 have e : decide (∀ i ∈ placesN a, ¬ rd (farOf a) (i : Int) < 0) = hangB a := by
  unfold hangB
  refine decide_eq_decide.2 ⟨fun h i hi => Classical.byContradiction fun hn => h i hi ((farOf_neg hf hi).2 hn), fun h i hi hn => (farOf_neg hf hi).1 hn (h i hi)⟩
 unfold sixN sixB
 rw [e, decide_eq_true (show a.size ≤ 41 ∧ fitN a from ⟨h41, hf⟩), Bool.true_and]
theorem neSix_same {a : ByteArray} (hf : fitN a) (h41 : a.size ≤ 41) : Ev (fun k => qc.f k (wideN a : Int) (highN a : Int) (nums (flatN a))) (sixB a) := by
 rw [← sixN_is hf h41]
 exact neSix_ev a hf h41 (farOf a) (by unfold farOf; rw [qoA, List.length_range]) (fun h6 hw hh => specFar_ev hf h6 hw hh)
def botsOf (a : ByteArray) : List Int := tabU botI (placesN a) (runOf a)
def farsOf (a : ByteArray) : List Int := tabU farG (placesN a) (runOf a)
theorem foldOf_ev {a : ByteArray} (hf : fitN a) (h6 : (placesN a).length = 6) (hw : wideN a ≤ 6) (hh : highN a ≤ 6) : Ev (fun k => qF.f k ((placesN a).map (cellAt (wideN a)))) (botsOf a, farsOf a) :=
 fold_ev (wideN a) (highN a) (flatN a) (Nat.pos_of_ne_zero hf.1) hw hh (qPB hf) _ _ (qsB h6)
theorem qMC (a : ByteArray) : (-1 : Int) ∈ farsOf a ↔ ¬ ∀ i ∈ placesN a, i ∈ keysN (runOf a) := by
 unfold farsOf tabU
 rw [List.mem_map]
 constructor
 ·rintro ⟨i, hi, e⟩ h
  have := h i hi
  exact qmB.1 (show farG (look (runOf a) i) < 0 by rw [e]; decide) this
 ·intro h
  refine Classical.byContradiction fun hn => h fun i hi => Classical.byContradiction fun hm => hn ⟨i, hi, ?_⟩
  rw [qDC hm]; rfl
theorem hangs_ev {a : ByteArray} (hf : fitN a) (h6 : (placesN a).length = 6) (hw : wideN a ≤ 6) (hh : highN a ≤ 6) : Ev (fun k => qQA.f k ((placesN a).map (cellAt (wideN a)))) (hangB a) := by
 unfold qQA.f
 refine Ev.bind (foldOf_ev hf h6 hw hh) (Ev.bind (contI_ev (farsOf a) (by unfold farsOf; rw [qoA]; omega) (-1)) (Ev.some_ ?_))
 unfold hangB
 by_cases h : ∀ i ∈ placesN a, i ∈ keysN (runOf a)
 ·rw [decide_eq_true h, decide_eq_false (fun hn => (qMC a).1 hn h)]; rfl
 ·rw [decide_eq_false h, decide_eq_true ((qMC a).2 h)]; rfl
theorem implSix_ev (a : ByteArray) (ha : a.size ≤ 1048576) : Ev (fun k => qGB.f k a) (if sixB a = true then ((placesN a).map (cellAt (wideN a)), (placesN a).map (digAt (flatN a)), true) else ([], [], false)) := by
 suffices hs : Ev (fun k => if goodN a ∧ (placesN a).length = 6 ∧ colsFull a then (qQA.f k ((placesN a).map (cellAt (wideN a)))).bind fun t => some (if t = true then ((placesN a).map (cellAt (wideN a)), (placesN a).map (digAt (flatN a)), true) else ([], [], false)) else some ([], [], false)) (if sixB a = true then ((placesN a).map (cellAt (wideN a)), (placesN a).map (digAt (flatN a)), true) else ([], [], false)) from hs.congr (fun k => six_f k a ha)
 by_cases h : goodN a ∧ (placesN a).length = 6 ∧ colsFull a
 ·obtain ⟨hg, h6, hc⟩ := h
  obtain ⟨h41, hf, hw, hh, _, hl⟩ := (good_six a h6).1 ⟨hg, hc⟩
  refine Ev.pos ⟨hg, h6, hc⟩ (Ev.bind (hangs_ev hf h6 hw hh) (Ev.some_ ?_))
  have : sixB a = hangB a := by
   unfold sixB
   rw [decide_eq_true (show a.size ≤ 41 ∧ fitN a from ⟨h41, hf⟩), decide_eq_true h6, decide_eq_true hw, decide_eq_true hh, decide_eq_true hc, decide_eq_true hl]
   simp
  rw [this]
 ·refine Ev.neg h (Ev.some_ ?_)
  have : ¬ sixB a = true := by
   intro hs
   unfold sixB at hs
   simp only [Bool.and_eq_true, decide_eq_true_eq] at hs
   obtain ⟨⟨h41, hf⟩, h6, hw, hh, _, hc, hl⟩ := hs
   obtain ⟨hg, _⟩ := (good_six a h6).2 ⟨h41, hf, hw, hh, hc, hl⟩
   exact h ⟨hg, h6, hc⟩
  rw [if_neg this]
theorem rots_f5 : ∀ p ∈ rots, 0 ≤ p.f5 ∧ p.f5 < 6 := by decide +kernel
theorem rots_rol {p : DD} (h : p ∈ rots) (d : Nat) (hd : d < 4) : rolD p d ∈ rots := by
 have hc := rots_closed p h
 obtain rfl | rfl | rfl | rfl : d = 0 ∨ d = 1 ∨ d = 2 ∨ d = 3 := by omega
 ·exact hc.1
 ·exact hc.2.1
 ·exact hc.2.2.1
 ·exact hc.2.2.2
def DieN (L : List (Nat × Fnd)) : Prop := ∀ e ∈ L, e.2.1 ∈ rots
theorem DieN.new {L : List (Nat × Fnd)} (h : DieN L) {i j at_ : Nat} {v : Fnd} (hat : L[at_]? = some (i, v)) (d : Nat) (hd : d < 4) (q : Nat) : DieN (L ++ [(j, (rolD v.1 d, q))]) := by
 intro e he
 rcases List.mem_append.1 he with he | he
 ·exact h e he
 ·rw [List.mem_singleton] at he
  subst he
  exact rots_rol (h _ (List.mem_of_getElem? hat)) d hd
theorem botG_neg {L : List (Nat × Fnd)} (hD : DieN L) {i : Nat} : botG (look L i) < 0 ↔ ¬ i ∈ keysN L := by
 constructor
 ·intro h hm
  obtain ⟨v, hv, hmem⟩ := qXC hm
  rw [hv] at h
  have h2 : v.1.f5 < 0 := h
  have h3 : 0 ≤ v.1.f5 := (rots_f5 _ (hD _ hmem)).1
  omega
 ·intro h
  rw [qDC h]; decide
section
variable (w h : Nat) (F : List UInt8)
theorem dieN_puts (at_ i : Nat) (v : Fnd) : ∀ (n d : Nat) (L : List (Nat × Fnd)), d + n = 4 → L[at_]? = some (i, v) → DieN L → DieN (Bfs.puts L (stepsN w h F i v n d)) := by
 intro n
 induction n with
 | zero => intro d L _ _ hD; exact hD
 | succ n ih =>
  intro d L hd hat hD
  rw [stepsN, Bfs.puts]
  cases hs : stepG w h F d i with
  | none => exact ih (d + 1) L (by omega) hat hD
  | some j =>
   by_cases hm : j ∈ keysN L
   ·rw [Bfs.qVC hm]; exact ih (d + 1) L (by omega) hat hD
   ·rw [Bfs.qIC hm]
    exact ih (d + 1) _ (by omega) (by rw [List.getElem?_append_left (List.getElem?_eq_some_iff.1 hat).1]; exact hat) (hD.new hat d (by omega) _)
theorem dieN_round {at_ : Nat} {L : List (Nat × Fnd)} (hD : DieN L) : DieN (Bfs.round (nextN w h F) at_ L) := by
 unfold Bfs.round
 cases hx : L[at_]? with
 | none => exact hD
 | some x => exact dieN_puts w h F at_ x.1 x.2 4 0 L rfl hx hD
theorem dieN_run : ∀ (n at_ : Nat) (L : List (Nat × Fnd)), DieN L → DieN (Bfs.run (nextN w h F) n at_ L)
 | 0, _, L, hD => hD
 | n + 1, at_, L, hD => by
  rw [Bfs.run]
  split
  ·exact dieN_run n (at_ + 1) _ (dieN_round w h F hD)
  ·exact hD
theorem dieN_runN (i0 : Nat) : DieN (runN_ w h F i0) := dieN_run w h F 36 0 _ (fun e he => by rw [List.mem_singleton] at he; subst he; exact rots_plain)
theorem bot_steps (hw0 : 0 < w) (hw : w ≤ 6) (hh : h ≤ 6) (hF : F.length = w * h) (X33 : List Int) (R : List Int × Bool) (at_ : Nat) (i : Nat) (v : Fnd) : ∀ (n d : Nat) (L : List (Nat × Fnd)), d + n = 4 → L[at_]? = some (i, v) → OkN (idxFrom 0 F) L → DieN L →
  Ev (fun k => qJ.l1 k (ints (keysN (Bfs.puts L (stepsN w h F i v n d)))) ((at_ + 1 : Nat) : Int) (tabU botG (List.range F.length) (Bfs.puts L (stepsN w h F i v n d))) (tabU dieG (List.range F.length) (Bfs.puts L (stepsN w h F i v n d))) X33 (w : Int) (h : Int) (nums F)) R →
  Ev (fun k => qJ.l2 k (ints (keysN L)) (at_ : Int) (d : Int) (tabU botG (List.range F.length) L) (tabU dieG (List.range F.length) L) X33 (w : Int) (h : Int) (nums F)) R := by
 have h36 : F.length ≤ 36 := hF ▸ (Nat.mul_le_mul hw hh : w * h ≤ 6 * 6)
 have hDl := qrA F 0
 intro n
 induction n with
 | zero =>
  intro d L hd hat hok hdn hR
  have hal := (List.getElem?_eq_some_iff.1 hat).1
  have hlen := hok.len
  have w1 := qdA at_ (by omega)
  have a1 : ¬ (d : Int) < 4 := by omega
  refine Ev.step (f := fun k => _) (fun k => by rw [qJ.l2]) ?_
  rw [w1]
  exact Ev.neg a1 hR
 | succ n ih =>
  intro d L hd hat hok hdn hR
  have hal := (List.getElem?_eq_some_iff.1 hat).1
  have hlen := hok.len
  have hd4 : d < 4 := by omega
  have hd5 : d + 1 + n = 4 := by omega
  have hLs : L.length ≤ 36 := Nat.le_trans hlen (Nat.le_trans hDl h36)
  have w1 := qdA d (Nat.lt_trans hd4 (by decide))
  have a1 : (d : Int) < 4 := Int.ofNat_lt.2 hd4
  have hkl : at_ < (keysN L).length := by rw [List.length_map]; exact hal
  have a3 : (at_ : Int) < ((ints (keysN L)).length : Int) := by rw [qkA]; exact Int.ofNat_lt.2 hkl
  have hr : rd (ints (keysN L)) (at_ : Int) = (i : Int) := by rw [rdInts _ _ hkl, keys_get hat hkl]
  have hiD : i ∈ idxFrom 0 F := hok.mem _ (List.mem_of_getElem? hat)
  have hiF : i < F.length := by
   obtain ⟨_, c, hc, _⟩ := (qWA F 0 i).1 hiD
   have := (List.getElem?_eq_some_iff.1 hc).1
   rwa [Nat.sub_zero] at this
  have hstep := neStep_is w h hw0 hw hh F hF i d (hF ▸ hiF) hd4
  have hro := specRoll_is v.1 d hd4
  have t1 : (tabU botG (List.range F.length) L).length = F.length := by rw [qoA, List.length_range]
  have t2 : (tabU dieG (List.range F.length) L).length = F.length := by rw [qoA, List.length_range]
  have hlk := qiC hok.nodup hat
  have hq : (ints (keysN L)).length < 17592186044416 := by rw [qkA, List.length_map]; exact Nat.lt_of_le_of_lt hLs (by decide)
  rw [stepsN, Bfs.puts] at hR
  refine Ev.step (f := fun k => _) (fun k => by rw [qJ.l2]) ?_
  rw [w1]
  refine Ev.pos a1 (Ev.pos (Int.natCast_nonneg _) (Ev.pos a3 ?_))
  rw [hr]
  refine Ev.bindc hstep ?_
  cases hs : stepG w h F d i with
  | none =>
   rw [hs] at hR
   exact Ev.neg (by decide) (ih (d + 1) L hd5 hat hok hdn hR)
  | some j =>
   obtain ⟨hjD, _⟩ := qNB hF hw0 hs
   have hjF : j < F.length := by
    obtain ⟨_, c, hc, _⟩ := (qWA F 0 j).1 hjD
    have := (List.getElem?_eq_some_iff.1 hc).1
    rwa [Nat.sub_zero] at this
   have hjr : j < (List.range F.length).length := by rw [List.length_range]; exact hjF
   have hir : i < (List.range F.length).length := by rw [List.length_range]; exact hiF
   have hrj : rd (tabU botG (List.range F.length) L) (j : Int) = botG (look L j) := by rw [rdTab (γ := Unit) botG _ L j hjr, List.getElem_range]
   have hrd : qZ (tabU dieG (List.range F.length) L) (i : Int) = v.1 := by rw [rdTabD _ L i hir, List.getElem_range, hlk]; rfl
   have b1 : (j : Int) < ((tabU botG (List.range F.length) L).length : Int) := by rw [t1]; exact Int.ofNat_lt.2 hjF
   have b2 : (i : Int) < ((tabU dieG (List.range F.length) L).length : Int) := by rw [t2]; exact Int.ofNat_lt.2 hiF
   have b3 : (j : Int) < ((tabU dieG (List.range F.length) L).length : Int) := by rw [t2]; exact Int.ofNat_lt.2 hjF
   refine Ev.pos (show (optI (fun j => (j : Int)) (some j)) ≥ 0 from Int.natCast_nonneg _) (Ev.pos (Int.natCast_nonneg _) (Ev.pos b1 ?_))
   show Ev (fun k => if rd (tabU botG (List.range F.length) L) (j : Int) < 0 then _ else _) R
   rw [hrj]
   rw [hs] at hR
   by_cases hm : j ∈ keysN L
   ·rw [Bfs.qVC hm] at hR
    exact Ev.neg (fun hn => ((botG_neg hdn).1 hn) hm) (ih (d + 1) L hd5 hat hok hdn hR)
   ·rw [Bfs.qIC hm] at hR
    have hmn : ¬ (List.range F.length)[j] ∈ keysN L := by rw [List.getElem_range]; exact hm
    have s1 := qIB botG (List.range F.length) List.nodup_range L j hjr (rolD v.1 d, v.2 + 1) hmn
    have s2 := qIB dieG (List.range F.length) List.nodup_range L j hjr (rolD v.1 d, v.2 + 1) hmn
    rw [List.getElem_range] at s1 s2
    refine Ev.pos ((botG_neg hdn).2 hm) (Ev.pos (Int.natCast_nonneg _) (Ev.pos b2 ?_))
    rw [hrd]
    refine Ev.bindc hro (Ev.pos b3 ?_)
    show Ev (fun k => (some ((tabU dieG (List.range F.length) L).set ((j : Int)).toNat (dieG (some (rolD v.1 d, v.2 + 1)))) : Option (List DD)).bind _) R
    rw [Int.toNat_natCast, s2]
    refine Ev.bindc rfl (Ev.pos hq ?_)
    have hrb : qZ (tabU dieG (List.range F.length) (L ++ [(j, (rolD v.1 d, v.2 + 1))])) (j : Int) = rolD v.1 d := by rw [rdTabD _ _ j hjr, List.getElem_range, look_add L j _ hm, if_pos rfl]; rfl
    show Ev (fun k => qJ.l2 k (ints (keysN L) ++ [(j : Int)]) (at_ : Int) ((d + 1 : Nat) : Int) ((tabU botG (List.range F.length) L).set j ((qZ (tabU dieG (List.range F.length) (L ++ [(j, (rolD v.1 d, v.2 + 1))])) (j : Int)).f5)) (tabU dieG (List.range F.length) (L ++ [(j, (rolD v.1 d, v.2 + 1))])) X33 (w : Int) (h : Int) (nums F)) R
    rw [hrb, show (rolD v.1 d).f5 = botG (some (rolD v.1 d, v.2 + 1)) from rfl, s1, quB, ← keys_append L j (rolD v.1 d, v.2 + 1)]
    exact ih (d + 1) _ hd5 (by rw [List.getElem?_append_left hal]; exact hat) (hok.new hat hjD hm _) (hdn.new hat d hd4 _) hR
end
theorem bit_of : ∀ m : Nat, m < 64 → ∀ b : Nat, b < 6 → (Int.tmod (shr .i64 (m : Int) (b : Int)) 2 = 1 ↔ m.testBit b = true) := by decide +kernel
def botOk (bn : Nat → Nat) : Nat → List Nat → Bool
 | _, [] => true
 | m, i :: l => if m.testBit (bn i) = true then false else botOk bn (mkM m (bn i)) l
theorem botOk_iff (bn : Nat → Nat) : ∀ (l : List Nat) (m : Nat), m < 64 → (∀ i ∈ l, bn i < 6) → (botOk bn m l = true ↔ (l.map bn).Nodup ∧ ∀ i ∈ l, m.testBit (bn i) = false)
 | [], m, _, _ => by simp [botOk]
 | i :: l, m, hm, hl => by
  have h1 := hl i List.mem_cons_self
  have hl' := fun q hq => hl q (List.mem_cons_of_mem _ hq)
  have ih := botOk_iff bn l (mkM m (bn i)) (qjB m hm _ h1).2 hl'
  rw [botOk]
  by_cases hb : m.testBit (bn i) = true
  ·rw [if_pos hb]
   constructor
   ·intro h; cases h
   ·rintro ⟨_, h⟩
    rw [h i List.mem_cons_self] at hb; cases hb
  ·rw [if_neg hb, ih, List.map_cons, List.nodup_cons]
   constructor
   ·rintro ⟨h2, h3⟩
    refine ⟨⟨fun hmem => ?_, h2⟩, fun q hq => ?_⟩
    ·obtain ⟨q, hq, e⟩ := List.mem_map.1 hmem
     have := h3 q hq
     rw [qdC m hm _ h1 _ (hl' q hq), e] at this
     simp at this
    ·rcases List.mem_cons.1 hq with rfl | hq
     ·exact Bool.eq_false_iff.2 hb
     ·have := h3 q hq
      rw [qdC m hm _ h1 _ (hl' q hq)] at this
      exact (Bool.or_eq_false_iff.1 this).1
   ·rintro ⟨⟨h2, h3⟩, h4⟩
    refine ⟨h3, fun q hq => ?_⟩
    rw [qdC m hm _ h1 _ (hl' q hq), h4 q (List.mem_cons_of_mem _ hq), Bool.false_or, decide_eq_false_iff_not]
    intro e
    exact h2 (List.mem_map.2 ⟨q, hq, e.symm⟩)
theorem bot_l3 (X : List Int) (bn : Nat → Nat) (D : List Nat) (hDl : D.length ≤ 100) (hX : ∀ i ∈ D, i < X.length ∧ rd X (i : Int) = (bn i : Int) ∧ bn i < 6) : ∀ (l : List Nat) (j m : Nat), D.drop j = l → m < 64 →
  Ev (fun k => qJ.l3 k (m : Int) X (ints D) (D.length : Int) (j : Int)) (X, botOk bn m l) := by
 intro l
 induction l with
 | nil =>
  intro j m hd hm
  have hn : D.length ≤ j := by
   rcases Nat.lt_or_ge j D.length with h | h
   ·rw [List.drop_eq_getElem_cons h] at hd; cases hd
   ·exact h
  refine Ev.step (f := fun k => _) (fun k => by rw [qJ.l3]) ?_
  exact Ev.neg (not_lt_of hn) (Ev.now _)
 | cons i l ih =>
  intro j m hd hm
  have hlt : j < D.length := by
   rcases Nat.lt_or_ge j D.length with h | h
   ·exact h
   ·rw [List.drop_eq_nil_of_le h] at hd; cases hd
  rw [List.drop_eq_getElem_cons hlt] at hd
  obtain ⟨hi, hd'⟩ := List.cons.inj hd
  obtain ⟨x1, x2, x3⟩ := hX i (hi ▸ List.getElem_mem hlt)
  have hr : rd (ints D) (j : Int) = (i : Int) := by rw [rdInts D j hlt, hi]
  have w1 := qdA j (Nat.lt_of_lt_of_le hlt (Nat.le_trans hDl (by decide)))
  have a1 : (j : Int) < (D.length : Int) := Int.ofNat_lt.2 hlt
  have a3 : (j : Int) < ((ints D).length : Int) := by rw [qkA]; exact a1
  have a5 : (i : Int) < (X.length : Int) := Int.ofNat_lt.2 x1
  have hb := bit_of m hm (bn i) x3
  have ho := qjB m hm (bn i) x3
  refine Ev.step (f := fun k => _) (fun k => by rw [qJ.l3]) ?_
  refine Ev.pos a1 (Ev.pos (Int.natCast_nonneg _) (Ev.pos a3 ?_))
  rw [hr]
  refine Ev.pos (Int.natCast_nonneg _) (Ev.pos a5 ?_)
  rw [x2, botOk]
  refine Ev.pos (Int.natCast_nonneg _) ?_
  by_cases ht : m.testBit (bn i) = true
  ·rw [if_pos ht]
   exact Ev.pos (hb.2 ht) (Ev.now _)
  ·rw [if_neg ht, ho.1, w1]
   exact Ev.neg (fun e => ht (hb.1 e)) (ih (j + 1) _ hd' ho.2)
end Go.Proofs.YtdncpkppkafkpaaGreatDoor
namespace Go.Proofs.YtdncpkppkafkpaaGreatDoor
open Go.RowKit Go.Proofs.YtdncpkppkafkpaaGreatDoor.P Go.Proofs.YtdncpkppkafkpaaGreatDoorW.PrintWords Go.Proofs.YtdncpkppkafkpaaGreatDoorW.PrintLast
open Go.Lib (keeps compactUpTo)
set_option linter.unusedVariables false
set_option linter.unusedSimpArgs false
theorem kinds_nodup (l : List Int) : kinds l = l.length ↔ l.Nodup := by
 unfold kinds
 have hp := List.mergeSort_perm l (fun x y => decide (x ≤ y))
 have hs : (l.mergeSort fun x y => decide (x ≤ y)).Pairwise (fun a b => a ≤ b) := by
  have := List.pairwise_mergeSort (le := fun x y : Int => decide (x ≤ y)) (fun a b c h1 h2 => by simp only [decide_eq_true_eq] at *; omega) (fun a b => by simp only [Bool.or_eq_true, decide_eq_true_eq]; omega) l
  exact this.imp (fun h => of_decide_eq_true h)
 rw [← hp.nodup_iff, ← hp.length_eq]
 generalize (l.mergeSort fun x y => decide (x ≤ y)) = s at hs
 clear hp
 have hl : (Lib.compact s).length = ((List.range s.length).filter (keeps s.toArray)).length := by unfold Lib.compact compactUpTo; rw [List.length_map]
 have hr : (List.range s.length).length = s.length := List.length_range
 rw [hl]
 have hk : ∀ (j : Nat) (hj : j + 1 < s.length), keeps s.toArray (j + 1) = true ↔ s[j + 1] ≠ s[j] := by
  intro j hj
  unfold keeps
  have h1 : s.toArray[j + 1]! = s[j + 1] := by simp [hj]
  have h2 : s.toArray[j + 1 - 1]! = s[j] := by simp [show j < s.length by omega]
  rw [h1, h2]
  simp
 constructor
 ·intro h
  have hall : ∀ j ∈ List.range s.length, keeps s.toArray j = true := List.length_filter_eq_length_iff.1 (h.trans hr.symm)
  rw [List.nodup_iff_pairwise_ne]
  rw [List.pairwise_iff_getElem]
  intro i j hi hj hij
  have hj1 : j - 1 + 1 < s.length := by omega
  have hne := (hk (j - 1) hj1).1 (hall _ (List.mem_range.2 hj1))
  have e : j - 1 + 1 = j := by omega
  have hle : s[i] ≤ s[j - 1] := by
   rcases Nat.lt_or_ge i (j - 1) with h3 | h3
   ·exact (List.pairwise_iff_getElem.1 hs) i (j - 1) hi (by omega) h3
   ·have : i = j - 1 := by omega
    subst this; exact Int.le_refl _
  have hle2 : s[j - 1] ≤ s[j] := (List.pairwise_iff_getElem.1 hs) (j - 1) j (by omega) hj (by omega)
  have hne2 : s[j] ≠ s[j - 1] := by
   have : s[j - 1 + 1] = s[j] := by congr 1
   rw [this] at hne; exact hne
  omega
 ·intro h
  rw [List.nodup_iff_pairwise_ne, List.pairwise_iff_getElem] at h
  have this : ((List.range s.length).filter (keeps s.toArray)).length = (List.range s.length).length := List.length_filter_eq_length_iff.2 (fun j hj => by
   have hj2 := List.mem_range.1 hj
   cases j with
   | zero => simp [keeps]
   | succ j => exact (hk j hj2).2 (fun e => h j (j + 1) (by omega) hj2 (by omega) e.symm))
  rw [this, hr]
theorem bot_run (w h : Nat) (F : List UInt8) (hw0 : 0 < w) (hw : w ≤ 6) (hh : h ≤ 6) (hF : F.length = w * h) (X33 : List Int) (R : List Int × Bool) (hend : ∀ L : List (Nat × Fnd), L = Bfs.run (nextN w h F) 36 0 [((idxFrom 0 F).headD 0, (plainD, 0))] → Ev (fun k => qJ.l3 k 0 (tabU botG (List.range F.length) L) X33 (X33.length : Int) 0) R) :
  ∀ (n at_ : Nat) (L : List (Nat × Fnd)), OkN (idxFrom 0 F) L → DieN L → (idxFrom 0 F).length ≤ at_ + n → Bfs.run (nextN w h F) n at_ L = Bfs.run (nextN w h F) 36 0 [((idxFrom 0 F).headD 0, (plainD, 0))] →
  Ev (fun k => qJ.l1 k (ints (keysN L)) (at_ : Int) (tabU botG (List.range F.length) L) (tabU dieG (List.range F.length) L) X33 (w : Int) (h : Int) (nums F)) R := by
 have hkl : ∀ L : List (Nat × Fnd), (ints (keysN L)).length = L.length := fun L => by rw [qkA, List.length_map]
 intro n
 induction n with
 | zero =>
  intro at_ L hok hdn hn he
  have hl := hok.len
  have a1 : ¬ (at_ : Int) < ((ints (keysN L)).length : Int) := by rw [hkl]; omega
  refine Ev.step (f := fun k => _) (fun k => by rw [qJ.l1]) ?_
  exact Ev.neg a1 (hend L he)
 | succ n ih =>
  intro at_ L hok hdn hn he
  have hl := hok.len
  refine Ev.step (f := fun k => _) (fun k => by rw [qJ.l1]) ?_
  by_cases hat : at_ < L.length
  ·have hx : L[at_]? = some L[at_] := List.getElem?_eq_getElem hat
   rw [Bfs.run, if_pos hat] at he
   have hro : Bfs.round (nextN w h F) at_ L = Bfs.puts L (stepsN w h F L[at_].1 L[at_].2 4 0) := by unfold Bfs.round; rw [hx]; rfl
   have := ih (at_ + 1) (Bfs.round (nextN w h F) at_ L) (qWC w h F hw0 hF hok) (dieN_round w h F hdn) (by omega) he
   have a1 : (at_ : Int) < ((ints (keysN L)).length : Int) := by rw [hkl]; omega
   refine Ev.pos a1 ?_
   refine bot_steps w h F hw0 hw hh hF X33 _ at_ L[at_].1 L[at_].2 4 0 L rfl hx hok hdn ?_
   rw [← hro]
   exact this
  ·have a1 : ¬ (at_ : Int) < ((ints (keysN L)).length : Int) := by rw [hkl]; omega
   rw [Bfs.run, if_neg hat] at he
   exact Ev.neg a1 (hend L he)
theorem bot_fill (w h : Nat) (F : List UInt8) (N : Nat) (hN : N ≤ 36) (Y : List DD) (R : List Int × Bool) : ∀ (d i : Nat), i + d = N →
  (Ev (fun k => qJ.l0 k (List.replicate N (-1)) Y (N : Int) (N : Int) (w : Int) (h : Int) (nums F)) R) →
  Ev (fun k => qJ.l0 k (List.replicate i (-1) ++ List.replicate d 0) Y (N : Int) (i : Int) (w : Int) (h : Int) (nums F)) R
 | 0, i, hd, hR => by
  obtain rfl : i = N := by omega
  rw [List.replicate_zero, List.append_nil]; exact hR
 | d + 1, i, hd, hR => by
  have ih := bot_fill w h F N hN Y R d (i + 1) (by omega) hR
  have w1 := qdA i (by omega)
  have e : (List.replicate i (-1 : Int) ++ List.replicate (d + 1) (0 : Int)).set i (-1) = List.replicate (i + 1) (-1 : Int) ++ List.replicate d (0 : Int) := by
   rw [List.set_append_right _ _ (by rw [List.length_replicate]; exact Nat.le_refl _), List.length_replicate, Nat.sub_self, List.replicate_succ, List.set_cons_zero, List.replicate_succ', List.append_assoc]; rfl
  refine Ev.step (f := fun k => _) (fun k => by rw [qJ.l0]) ?_
  refine Ev.pos (by omega) (Ev.pos (by omega) (Ev.pos (by simp; omega) ?_))
  rw [w1, Int.toNat_natCast, e]
  exact ih
def botAt (a : ByteArray) (i : Nat) : Nat := (botI (look (runOf a) i)).toNat
def specBots (a : ByteArray) : List Int := tabU botG (List.range (flatN a).length) (runOf a)
theorem botAt_is {a : ByteArray} (hang : hangB a = true) {i : Nat} (hi : i ∈ placesN a) : ∃ v, look (runOf a) i = some v ∧ v.1.f5 = (botAt a i : Int) ∧ botAt a i < 6 := by
 have hm := of_decide_eq_true hang i hi
 obtain ⟨v, hv, hmem⟩ := qXC hm
 have hd : 0 ≤ v.1.f5 ∧ v.1.f5 < 6 := rots_f5 _ (dieN_runN _ _ _ _ _ hmem)
 refine ⟨v, hv, ?_, ?_⟩
 ·unfold botAt; rw [hv]; show v.1.f5 = ((v.1.f5).toNat : Int); omega
 ·unfold botAt; rw [hv]; show (v.1.f5).toNat < 6; omega
def netB (a : ByteArray) : Bool := sixB a && decide ((placesN a).map (botAt a)).Nodup
theorem neBottoms_ev {a : ByteArray} (hf : fitN a) (h6 : (placesN a).length = 6) (hw : wideN a ≤ 6) (hh : highN a ≤ 6) (hang : hangB a = true) :
  Ev (fun k => qJ.f k (wideN a : Int) (highN a : Int) (nums (flatN a))) (specBots a, decide ((placesN a).map (botAt a)).Nodup) := by
 have hw0 := Nat.pos_of_ne_zero hf.1
 have hF := qPB hf
 have h36 : (flatN a).length ≤ 36 := hF ▸ (Nat.mul_le_mul hw hh : wideN a * highN a ≤ 6 * 6)
 have hDl : (placesN a).length ≤ (flatN a).length := qrA _ 0
 have hDl2 : (idxFrom 0 (flatN a)).length ≤ (flatN a).length := qrA _ 0
 have hn : (nums (flatN a)).length = (flatN a).length := List.length_map _
 have hcons := qsB h6
 obtain ⟨i0, hi0⟩ : ∃ i0, (placesN a).headD 0 = i0 := ⟨_, rfl⟩
 rw [hi0] at hcons
 have hi0m : i0 ∈ placesN a := by rw [hcons]; exact List.mem_cons_self
 have hiF : i0 < (flatN a).length := by rw [hF]; exact qUB hf i0 hi0m
 have hrun : runOf a = Bfs.run (nextN (wideN a) (highN a) (flatN a)) 36 0 [((idxFrom 0 (flatN a)).headD 0, (plainD, 0))] := rfl
 unfold qJ.f
 rw [hn]
 refine Ev.pos (Int.natCast_nonneg _) (Ev.pos (by rw [Int.toNat_natCast]; omega) (Ev.bindc rfl (Ev.pos (by rw [Int.toNat_natCast]; omega) ?_)))
 rw [Int.toNat_natCast, List.length_replicate]
 have hfill := bot_fill (wideN a) (highN a) (flatN a) (flatN a).length h36 (List.replicate (flatN a).length z53) (specBots a, decide ((placesN a).map (botAt a)).Nodup) (flatN a).length 0 (by omega)
 rw [List.replicate_zero, List.nil_append] at hfill
 refine hfill ?_
 refine Ev.step (f := fun k => _) (fun k => by rw [qJ.l0]) ?_
 have n1 : ¬ ((flatN a).length : Int) < ((flatN a).length : Int) := Int.lt_irrefl _
 refine Ev.neg n1 (Ev.bind (qtB _ _ (flatN a) (by omega)) ?_)
 have e0 : rd (ints (idxFrom 0 (flatN a))) 0 = (i0 : Int) := by
  show rd (ints (placesN a)) 0 = _
  rw [hcons]; rfl
 have e1 : (ints (idxFrom 0 (flatN a))).length = 6 := by rw [qkA]; exact h6
 rw [e0]
 have b1 : (i0 : Int) < ((List.replicate (flatN a).length z53).length : Int) := by rw [List.length_replicate]; exact Int.ofNat_lt.2 hiF
 have b2 : (i0 : Int) < ((List.replicate (flatN a).length (-1 : Int)).length : Int) := by rw [List.length_replicate]; exact Int.ofNat_lt.2 hiF
 refine Ev.pos (by rw [e1]; decide) (Ev.bindc (show qEB.f = some (0, 1, 2, 3, 4, 5) by decide +kernel) (Ev.pos (Int.natCast_nonneg _) (Ev.pos b1 (Ev.pos b2 ?_))))
 have s1 := qxB botG (-1) rfl (List.range (flatN a).length) List.nodup_range i0 (by rw [List.length_range]; exact hiF) (plainD, 0)
 have s2 : (List.replicate (flatN a).length z53).set i0 (dieG (some (plainD, 0))) = tabU dieG (List.range (flatN a).length) [(i0, (plainD, 0))] := by
  have h0 : List.replicate (flatN a).length z53 = tabU dieG (List.range (flatN a).length) [] := by
   unfold tabU
   have : (fun i => dieG (look [] i)) = fun _ => z53 := by funext i; rfl
   rw [this, List.map_const', List.length_range]
  have hs := qIB dieG (List.range (flatN a).length) List.nodup_range [] i0 (by rw [List.length_range]; exact hiF) (plainD, 0) (by simp)
  simp only [List.getElem_range] at hs
  rw [h0, hs, List.nil_append]
 simp only [List.length_range, List.getElem_range] at s1
 show Ev (fun k => qJ.l1 k [(i0 : Int)] 0 ((List.replicate (flatN a).length (-1)).set ((i0 : Int)).toNat (botG (some (plainD, 0)))) ((List.replicate (flatN a).length z53).set ((i0 : Int)).toNat (dieG (some (plainD, 0)))) (ints (idxFrom 0 (flatN a))) (wideN a : Int) (highN a : Int) (nums (flatN a))) _
 rw [Int.toNat_natCast, s1, s2]
 have hst : [(i0, (plainD, 0))] = [((idxFrom 0 (flatN a)).headD 0, ((plainD, 0) : Fnd))] := by
  have : (idxFrom 0 (flatN a)).headD 0 = i0 := hi0
  rw [this]
 refine bot_run (wideN a) (highN a) (flatN a) hw0 hw hh hF _ _ (fun L hL => ?_) 36 0 [(i0, (plainD, 0))] (OkN.start hi0m plainD) (fun e he => by rw [List.mem_singleton] at he; subst he; exact rots_plain) (by omega) (by rw [hst])
 rw [← hrun] at hL
 subst hL
 have hX : ∀ i ∈ placesN a, i < (specBots a).length ∧ rd (specBots a) (i : Int) = (botAt a i : Int) ∧ botAt a i < 6 := by
  intro i hi
  have hil : i < (flatN a).length := by rw [hF]; exact qUB hf i hi
  obtain ⟨v, hv, e, hlt⟩ := botAt_is hang hi
  refine ⟨by unfold specBots; rw [qoA, List.length_range]; exact hil, ?_, hlt⟩
  unfold specBots
  rw [rdTab (γ := Unit) botG _ _ i (by rw [List.length_range]; exact hil), List.getElem_range, hv]
  exact e
 have hl3 := bot_l3 (specBots a) (botAt a) (placesN a) (by omega) hX (placesN a) 0 0 List.drop_zero (by decide)
 have hok : botOk (botAt a) 0 (placesN a) = decide ((placesN a).map (botAt a)).Nodup := by
  have := botOk_iff (botAt a) (placesN a) 0 (by decide) (fun i hi => (hX i hi).2.2)
  by_cases hnd : ((placesN a).map (botAt a)).Nodup
  ·rw [decide_eq_true hnd]; exact this.2 ⟨hnd, fun i _ => Nat.zero_testBit _⟩
  ·rw [decide_eq_false hnd, Bool.eq_false_iff]; exact fun h => hnd (this.1 h).1
 rw [hok] at hl3
 have e2 : ((ints (idxFrom 0 (flatN a))).length : Int) = ((placesN a).length : Int) := by rw [qkA]; rfl
 rw [e2]
 exact hl3
theorem neNet_ev (a : ByteArray) : ∃ r : Int × Int × List Int × List Int × Bool, Ev (fun k => qzA.f k a) r ∧ r.2.2.2.2 = netB a ∧ (netB a = true → r = ((wideN a : Int), (highN a : Int), nums (flatN a), specBots a, true)) := by
 unfold qzA.f
 by_cases h : a.size ≤ 41 ∧ fitN a
 ·have h1 := neRead_ev a
  rw [if_pos h] at h1
  have h2 := neSix_same h.2 h.1
  cases hs : sixB a with
  | true =>
   rw [hs] at h2
   have hs' := hs
   unfold sixB at hs'
   simp only [Bool.and_eq_true, decide_eq_true_eq] at hs'
   obtain ⟨_, h6, hw, hh, hang, _, _⟩ := hs'
   have h3 := neBottoms_ev h.2 h6 hw hh hang
   refine ⟨_, Ev.bind h1 (Ev.pos rfl (Ev.bind h2 (Ev.pos rfl (Ev.bind h3 (Ev.now _))))), ?_, ?_⟩
   ·unfold netB; rw [hs, Bool.true_and]
   ·intro hn
    unfold netB at hn
    rw [hs, Bool.true_and] at hn
    rw [hn]
  | false =>
   rw [hs] at h2
   refine ⟨_, Ev.bind h1 (Ev.pos rfl (Ev.bind h2 (Ev.neg (by decide) (Ev.now _)))), ?_, ?_⟩
   ·unfold netB; rw [hs]; rfl
   ·intro hn; unfold netB at hn; rw [hs] at hn; cases hn
 ·have h1 := neRead_ev a
  rw [if_neg h] at h1
  have hs : sixB a = false := by unfold sixB; rw [decide_eq_false h, Bool.false_and]
  refine ⟨_, Ev.bind h1 (Ev.neg (by decide) (Ev.now _)), ?_, ?_⟩
  ·unfold netB; rw [hs]; rfl
  ·intro hn; unfold netB at hn; rw [hs] at hn; cases hn
structure IsNetN (a : ByteArray) : Prop where
 size : a.size ≤ 41
 fit : fitN a
 six : (placesN a).length = 6
 wide : wideN a ≤ 6
 high : highN a ≤ 6
 hang : hangB a = true
 cols : colsFull a
 lines : linesFull a
 nodup : ((placesN a).map (botAt a)).Nodup
theorem netB_is {a : ByteArray} (h : netB a = true) : IsNetN a := by
 unfold netB sixB at h
 simp only [Bool.and_eq_true, decide_eq_true_eq] at h
 obtain ⟨⟨⟨h1, h2⟩, h3, h4, h5, h6, h7, h8⟩, h9⟩ := h
 exact ⟨h1, h2, h3, h4, h5, h6, h7, h8, h9⟩
theorem implNet_ev (a : ByteArray) (ha : a.size ≤ 1048576) : ∃ r : List CC × List Int × Bool, Ev (fun k => qeB.f k a) r ∧ r.2.2 = netB a ∧ (netB a = true → r = ((placesN a).map (cellAt (wideN a)), (placesN a).map (digAt (flatN a)), true)) := by
 have h1 := implSix_ev a ha
 unfold qeB.f
 cases hs : sixB a with
 | true =>
  rw [hs, if_pos rfl] at h1
  have hs' := hs
  unfold sixB at hs'
  simp only [Bool.and_eq_true, decide_eq_true_eq] at hs'
  obtain ⟨⟨_, hf⟩, h6, hw, hh, hang, _, _⟩ := hs'
  have hfo := foldOf_ev hf h6 hw hh
  have hbl : (botsOf a).length = 6 := by unfold botsOf; rw [qoA]; exact h6
  have hfold : Ev (fun k => qFA.f k ((placesN a).map (cellAt (wideN a)))) (decide ((placesN a).map (botAt a)).Nodup) := by
   unfold qFA.f
   refine Ev.bind hfo (Ev.bind (contI_ev (farsOf a) (by unfold farsOf; rw [qoA]; omega) (-1)) ?_)
   rw [decide_eq_false (fun hn => (qMC a).1 hn (of_decide_eq_true hang))]
   refine Ev.neg (by decide) (Ev.pos (by rw [hbl]; decide) (Ev.some_ ?_))
   refine decide_eq_decide.2 ?_
   have hk := kinds_nodup (botsOf a)
   rw [hbl] at hk
   rw [hk]
   have e : botsOf a = ((placesN a).map (botAt a)).map (fun (n : Nat) => (n : Int)) := by
    unfold botsOf tabU
    rw [List.map_map]
    refine List.map_congr_left fun i hi => ?_
    obtain ⟨v, hv, e, _⟩ := botAt_is hang hi
    rw [hv]
    exact e
   rw [e]
   constructor
   ·intro h; exact (List.nodup_iff_pairwise_ne.2 ((List.pairwise_map.1 (List.nodup_iff_pairwise_ne.1 h)).imp (fun h e => h (by rw [e]))))
   ·intro h; exact (List.nodup_iff_pairwise_ne.2 (List.pairwise_map.2 ((List.nodup_iff_pairwise_ne.1 h).imp (fun h e => h (Int.ofNat.inj e)))))
  refine ⟨_, Ev.bind h1 (Ev.pos rfl (Ev.bind hfold (Ev.now _))), ?_, ?_⟩
  ·unfold netB; rw [hs, Bool.true_and]
  ·intro hn
   unfold netB at hn
   rw [hs, Bool.true_and] at hn
   rw [hn]
 | false =>
  rw [hs, if_neg (by decide)] at h1
  refine ⟨_, Ev.bind h1 (Ev.neg (by decide) (Ev.now _)), ?_, ?_⟩
  ·unfold netB; rw [hs]; rfl
  ·intro hn; unfold netB at hn; rw [hs] at hn; cases hn
end Go.Proofs.YtdncpkppkafkpaaGreatDoor
namespace Go.Proofs.YtdncpkppkafkpaaGreatDoor.Sorts
section
variable {α : Type}
variable {lt : α → α → Bool}
theorem one {l l' : List α} (h : l.Pairwise (fun a b => lt b a = false)) (h' : l'.Pairwise (fun a b => lt b a = false)) (hp : l.Perm l') (ha : ∀ a ∈ l, ∀ b ∈ l, lt a b = false → lt b a = false → a = b) : l = l' :=
 List.Perm.eq_of_pairwise (le := fun a b => lt b a = false) (fun a b h1 h2 h3 h4 => ha a h1 b (hp.mem_iff.2 h2) h4 h3) h h' hp
end
theorem drop_cons' {α : Type} {L : List α} {i : Nat} {c : α} {cs : List α} (h : L.drop i = c :: cs) : ∃ hi : i < L.length, L[i] = c ∧ L.drop (i + 1) = cs := by
 have hi : i < L.length := by
  rcases Nat.lt_or_ge i L.length with h1 | h1
  ·exact h1
  ·rw [List.drop_eq_nil_of_le h1] at h; cases h
 rw [List.drop_eq_getElem_cons hi] at h
 injection h with h1 h2
 exact ⟨hi, h1, h2⟩
theorem drop_nil' {α : Type} {L : List α} {i : Nat} (h : L.drop i = []) : L.length ≤ i := by
 rcases Nat.lt_or_ge i L.length with h1 | h1
 ·rw [List.drop_eq_getElem_cons h1] at h; cases h
 ·exact h1
end Go.Proofs.YtdncpkppkafkpaaGreatDoor.Sorts
