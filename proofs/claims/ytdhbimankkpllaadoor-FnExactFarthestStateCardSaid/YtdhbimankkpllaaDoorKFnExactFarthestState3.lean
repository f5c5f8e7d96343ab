/- The program's FarthestState and the reference's: the same, at all texts and states. -/
import Derived.Test.YtdhbimankkpllaaDoorKFnExactFarthestState2

namespace Go.Proofs.YtdhbimankkpllaaDoor
open Go.RowKit Go.Proofs.YtdhbimankkpllaaDoor.P Go.Proofs.YtdhbimankkpllaaDoorW.PrintWords Go.Proofs.YtdhbimankkpllaaDoorW.PrintLast Go.Proofs.YtdhbimankkpllaaDoorW.PrintMore
set_option linter.unusedVariables false
set_option linter.unusedSimpArgs false
theorem plLit0 {α : Type} {d : Kd α} {e base : Nat} {ok : Nat → Prop} {W w1 : World} {u : Value} {xs : List α} (h : d.R e W base ok u xs) (hg : W.grownBy w1 none) : d.R e w1 base ok u xs :=
 Kd.qAA (Kd.qWC (Kd.qVB h) (fun k hk hlt => hg.block k hlt (by simp))) (fun _ hk => hk.1)
def ApartV (u v : Value) : Prop := ∀ k, u.ownBlock = some k → some k ≠ v.ownBlock
theorem ApartV.symm {u v : Value} (h : ApartV u v) : ApartV v u := fun k hk e => h k e.symm hk.symm
theorem qmB {W : World} {u v : Value} (hn : ∃ b, u.ownBlock = some b ∧ W.heap.size ≤ b) (hl : ∀ k, v.ownBlock = some k → k < W.heap.size) : ApartV u v := by
 obtain ⟨b, hb, hle⟩ := hn
 intro k hk e
 rw [hb] at hk
 injection hk with hk
 subst hk
 have := hl b e.symm
 omega
theorem qGC {W : World} {u u1 v : Value} (hat : u1.ownBlock = u.ownBlock ∨ ∃ b, u1.ownBlock = some b ∧ W.heap.size ≤ b) (h : ApartV u v) (hl : ∀ k, v.ownBlock = some k → k < W.heap.size) : ApartV u1 v := by
 rcases hat with hat | hat
 ·intro k hk
  rw [hat] at hk
  exact h k hk
 ·exact qmB hat hl
theorem rcInfoS : (Tryd.prog.info? 28).map (fun i => (i.zero, i.size, i.bytes)) = some (some (.agg #[.int .i64 0, .int .i64 0, .int .i64 0, .int .i64 0, .int .i64 0, .int .i64 0, .int .i64 0, .int .i64 0]), 8, 64) := by kernel_rfl
theorem rcInfoI : (Tryd.prog.info? 3).map (fun i => (i.zero, i.size, i.bytes)) = some (some (.int .i64 0), 1, 8) := by kernel_rfl
theorem rcInfoU : (Tryd.prog.info? 5).map (fun i => (i.zero, i.size, i.bytes)) = some (some (.int .u8 0), 1, 1) := by kernel_rfl
theorem rcStore {own : XS} {v0 v1 v2 v3 v4 v5 v6 v7 : Value} {w : World} {ρ : Operand → Value} {o : Oper} (p v : Operand) (g8 : Nat) (hop : o.op = Op.store 28 p v) (hp : ρ p = .pointer (some ⟨g8, 0, none⟩)) (hv : ρ v = .agg #[.int .i64 own.f0, .int .i64 own.f1, .int .i64 own.f2.f0, .int .i64 own.f2.f1, .int .i64 own.f2.f2, .int .i64 own.f2.f3, .int .i64 own.f2.f4, .int .i64 own.f2.f5])
  (hb : w.heap[g8]? = some (.cells #[v0, v1, v2, v3, v4, v5, v6, v7] 28 (0, 0))) : (execOp ρ o).run Tryd.prog w = .ok .skip (((((((((w.setCell ⟨g8, 0, none⟩ (.int .i64 own.f0)).setCell ⟨g8, 1, none⟩ (.int .i64 own.f1)).setCell ⟨g8, 2, none⟩ (.int .i64 own.f2.f0)).setCell ⟨g8, 3, none⟩ (.int .i64 own.f2.f1)).setCell ⟨g8, 4, none⟩ (.int .i64 own.f2.f2)).setCell ⟨g8, 5, none⟩ (.int .i64 own.f2.f3)).setCell ⟨g8, 6, none⟩ (.int .i64 own.f2.f4)).setCell ⟨g8, 7, none⟩ (.int .i64 own.f2.f5))) := by
 have hu_ := Tryd.underlying28
 have h0 : w.cell? ⟨g8, 0, none⟩ = some v0 := (qD hb 0).trans rfl
 have h1 : w.cell? ⟨g8, 1, none⟩ = some v1 := (qD hb 1).trans rfl
 have h2 : w.cell? ⟨g8, 2, none⟩ = some v2 := (qD hb 2).trans rfl
 have h3 : w.cell? ⟨g8, 3, none⟩ = some v3 := (qD hb 3).trans rfl
 have h4 : w.cell? ⟨g8, 4, none⟩ = some v4 := (qD hb 4).trans rfl
 have h5 : w.cell? ⟨g8, 5, none⟩ = some v5 := (qD hb 5).trans rfl
 have h6 : w.cell? ⟨g8, 6, none⟩ = some v6 := (qD hb 6).trans rfl
 have h7 : w.cell? ⟨g8, 7, none⟩ = some v7 := (qD hb 7).trans rfl
 have f0 := qQ hb 0
 have f1 := qQ hb 1
 have f2 := qQ hb 2
 have f3 := qQ hb 3
 have f4 := qQ hb 4
 have f5 := qQ hb 5
 have f6 := qQ hb 6
 have f7 := qQ hb 7
 clear hb
 unfold execOp
 simp only [hop, hp, hv]
 go_simp
theorem rcFar {own : XS} (w : World) (g8 : Nat) (k : Nat) (h : k ≠ g8) : (((((((((w.setCell ⟨g8, 0, none⟩ (.int .i64 own.f0)).setCell ⟨g8, 1, none⟩ (.int .i64 own.f1)).setCell ⟨g8, 2, none⟩ (.int .i64 own.f2.f0)).setCell ⟨g8, 3, none⟩ (.int .i64 own.f2.f1)).setCell ⟨g8, 4, none⟩ (.int .i64 own.f2.f2)).setCell ⟨g8, 5, none⟩ (.int .i64 own.f2.f3)).setCell ⟨g8, 6, none⟩ (.int .i64 own.f2.f4)).setCell ⟨g8, 7, none⟩ (.int .i64 own.f2.f5))).heap[k]? = w.heap[k]? :=
 (Below.heap_setCell _ _ _ k h).trans ((Below.heap_setCell _ _ _ k h).trans ((Below.heap_setCell _ _ _ k h).trans ((Below.heap_setCell _ _ _ k h).trans ((Below.heap_setCell _ _ _ k h).trans ((Below.heap_setCell _ _ _ k h).trans ((Below.heap_setCell _ _ _ k h).trans (Below.heap_setCell _ _ _ k h)))))))
theorem rcNew {own : XS} {v0 v1 v2 v3 v4 v5 v6 v7 : Value} {w : World} {g8 : Nat} (hb : w.heap[g8]? = some (.cells #[v0, v1, v2, v3, v4, v5, v6, v7] 28 (0, 0))) : (((((((((w.setCell ⟨g8, 0, none⟩ (.int .i64 own.f0)).setCell ⟨g8, 1, none⟩ (.int .i64 own.f1)).setCell ⟨g8, 2, none⟩ (.int .i64 own.f2.f0)).setCell ⟨g8, 3, none⟩ (.int .i64 own.f2.f1)).setCell ⟨g8, 4, none⟩ (.int .i64 own.f2.f2)).setCell ⟨g8, 5, none⟩ (.int .i64 own.f2.f3)).setCell ⟨g8, 6, none⟩ (.int .i64 own.f2.f4)).setCell ⟨g8, 7, none⟩ (.int .i64 own.f2.f5))).heap[g8]? = some (.cells #[.int .i64 own.f0, .int .i64 own.f1, .int .i64 own.f2.f0, .int .i64 own.f2.f1, .int .i64 own.f2.f2, .int .i64 own.f2.f3, .int .i64 own.f2.f4, .int .i64 own.f2.f5] 28 (0, 0)) := by
 have h1 := qb (cs' := #[.int .i64 own.f0, v1, v2, v3, v4, v5, v6, v7]) hb 0 (.int .i64 own.f0) rfl
 have h2 := qb (cs' := #[.int .i64 own.f0, .int .i64 own.f1, v2, v3, v4, v5, v6, v7]) h1 1 (.int .i64 own.f1) rfl
 have h3 := qb (cs' := #[.int .i64 own.f0, .int .i64 own.f1, .int .i64 own.f2.f0, v3, v4, v5, v6, v7]) h2 2 (.int .i64 own.f2.f0) rfl
 have h4 := qb (cs' := #[.int .i64 own.f0, .int .i64 own.f1, .int .i64 own.f2.f0, .int .i64 own.f2.f1, v4, v5, v6, v7]) h3 3 (.int .i64 own.f2.f1) rfl
 have h5 := qb (cs' := #[.int .i64 own.f0, .int .i64 own.f1, .int .i64 own.f2.f0, .int .i64 own.f2.f1, .int .i64 own.f2.f2, v5, v6, v7]) h4 4 (.int .i64 own.f2.f2) rfl
 have h6 := qb (cs' := #[.int .i64 own.f0, .int .i64 own.f1, .int .i64 own.f2.f0, .int .i64 own.f2.f1, .int .i64 own.f2.f2, .int .i64 own.f2.f3, v6, v7]) h5 5 (.int .i64 own.f2.f3) rfl
 have h7 := qb (cs' := #[.int .i64 own.f0, .int .i64 own.f1, .int .i64 own.f2.f0, .int .i64 own.f2.f1, .int .i64 own.f2.f2, .int .i64 own.f2.f3, .int .i64 own.f2.f4, v7]) h6 6 (.int .i64 own.f2.f4) rfl
 have h8 := qb (cs' := #[.int .i64 own.f0, .int .i64 own.f1, .int .i64 own.f2.f0, .int .i64 own.f2.f1, .int .i64 own.f2.f2, .int .i64 own.f2.f3, .int .i64 own.f2.f4, .int .i64 own.f2.f5]) h7 7 (.int .i64 own.f2.f5) rfl
 exact h8
theorem rcSet {own : XS} {w w0 : World} {g8 : Nat} (hg : w0.heap.size ≤ g8) (hB : Below w0.heap.size w0 w) : Below w0.heap.size w0 (((((((((w.setCell ⟨g8, 0, none⟩ (.int .i64 own.f0)).setCell ⟨g8, 1, none⟩ (.int .i64 own.f1)).setCell ⟨g8, 2, none⟩ (.int .i64 own.f2.f0)).setCell ⟨g8, 3, none⟩ (.int .i64 own.f2.f1)).setCell ⟨g8, 4, none⟩ (.int .i64 own.f2.f2)).setCell ⟨g8, 5, none⟩ (.int .i64 own.f2.f3)).setCell ⟨g8, 6, none⟩ (.int .i64 own.f2.f4)).setCell ⟨g8, 7, none⟩ (.int .i64 own.f2.f5))) :=
 qGA (qGA (qGA (qGA (qGA (qGA (qGA (qGA hB hg) hg) hg) hg) hg) hg) hg) hg
theorem rcRow {α : Type} {d : Kd α} {e base g8 : Nat} {ok : Nat → Prop} {w w1 : World} {v : Value} {xs : List α} (h : d.R e w base ok v xs) (hE : d.E = []) (hne : some g8 ≠ v.ownBlock) (hfar : ∀ k, k ≠ g8 → w1.heap[k]? = w.heap[k]?) : d.R e w1 base ok v xs :=
 Kd.qAA (Kd.qWC (Kd.R_far1 h hE hne) (fun k hk _ => hfar k hk.2)) (fun _ hk => hk.1)
theorem rcRow' {α : Type} {d : Kd α} {e base g8 t : Nat} {ok : Nat → Prop} {w w1 : World} {v : Value} {xs : List α} {cs : Array Value} (h : d.R e w base ok v xs) (hb : w.heap[g8]? = some (.cells cs t (0, 0))) (ht : ∀ q, q ∈ e :: d.E → q ≠ t) (hfar : ∀ k, k ≠ g8 → w1.heap[k]? = w.heap[k]?) : d.R e w1 base ok v xs :=
 Kd.qAA (Kd.qWC (Kd.qRA h hb ht) (fun k hk _ => hfar k hk.2)) (fun _ hk => hk.1)
theorem rcIx (s : ByteArray) (i : Nat) (n : Int) (hn : bt s (i : Int) = n) : ∀ h : i < s.size, ((s[i]'h).toNat : Int) = n := by
 intro h
 rw [← hn]
 unfold bt
 rw [dif_pos (by simpa using h)]
 simp only [Int.toNat_natCast]
theorem rcSign (d : Nat) (hd : d < 4) : bt ⟨#[110, 101, 115, 119]⟩ (d : Int) = dirC (d : Int) ∧ dOf (dirC (d : Int)) = (d : Int) := by
 have : d = 0 ∨ d = 1 ∨ d = 2 ∨ d = 3 := by omega
 rcases this with rfl | rfl | rfl | rfl <;> exact ⟨by decide, by decide⟩
def MovesW (a : ByteArray) (fn : Nat) (fc cc : Array Value) (w : World) : Prop := ∀ (W : World) (x : XS) (c : Int), stateB a x = true → Below w.heap.size w W →
 Calls Tryd.prog fn (fc ++ #[.agg #[.int .i64 x.f0, .int .i64 x.f1, .int .i64 x.f2.f0, .int .i64 x.f2.f1, .int .i64 x.f2.f2, .int .i64 x.f2.f3, .int .i64 x.f2.f4, .int .i64 x.f2.f5], .int .u8 c] ++ cc) W fun e w' => e = .returned (.tuple #[encS (rollS x (dOf c)), .bool (floorB a (rollS x (dOf c)).f0 (rollS x (dOf c)).f1)]) ∧ Below W.heap.size W w'
def rcT1 : Bool × List (List Nat × List Nat) := (true, [([], []), ([0], [0]), ([], []), ([], []), ([], []), ([], []), ([], []), ([5, 6], [5, 6]), ([5, 6, 7], [5]), ([1, 2, 3, 4, 8], [1, 2, 3, 4, 8]), ([9], [9]), ([10, 0, 1, 2, 3, 4, 5, 6, 7, 8, 9, 10], [10])])
def rcB1 : List Nat := [0, 1, 0, 0, 0, 0, 0, 96, 224, 511, 1023, 2047]
theorem rcTab1 : rtab .any (opsOf Tryd.f22 1) = rcT1 := by kernel_rfl
theorem rcBits1 : waitsOk rcT1.2 rcB1 = true := by kernel_rfl
def rcT8 : Bool × List (List Nat × List Nat) := (true, [([], []), ([], []), ([1], [1]), ([2], [2]), ([3], [3]), ([], []), ([4, 5], [4, 5]), ([6], [6]), ([], []), ([8], [8]), ([0, 7, 9], [0, 7, 9]), ([10], [10]), ([11], [11]), ([11], [11]), ([], []), ([14, 12, 10, 0, 1, 2, 3, 4, 5, 6, 7, 8, 9, 10, 11, 12, 14], [12, 14]), ([13, 15, 0, 1, 2, 3, 4, 5, 6, 7, 8, 9, 10, 11, 12, 13, 14, 15], [13])])
def rcB8 : List Nat := [0, 0, 2, 6, 14, 0, 62, 126, 0, 256, 1023, 2047, 4095, 4095, 0, 24575, 65535]
theorem rcTab8 : rtab .any (opsOf Tryd.f22 8) = rcT8 := by kernel_rfl
theorem rcBits8 : waitsOk rcT8.2 rcB8 = true := by kernel_rfl
def rcT9 : Bool × List (List Nat × List Nat) := (true, [([], []), ([0], [0]), ([1], [1]), ([2], [2]), ([], []), ([3, 4], [3, 4]), ([5], [5]), ([6], [6]), ([6], [6]), ([7, 0, 1, 2, 3, 4, 5, 6, 7], [7]), ([8, 9, 0, 1, 2, 3, 4, 5, 6, 7, 8, 9], [8])])
def rcB9 : List Nat := [0, 1, 3, 7, 0, 31, 63, 127, 127, 255, 1023]
theorem rcTab9 : rtab .any (opsOf Tryd.f22 9) = rcT9 := by kernel_rfl
theorem rcBits9 : waitsOk rcT9.2 rcB9 = true := by kernel_rfl
def rcT11 : Bool × List (List Nat × List Nat) := (true, [([], []), ([0], [0]), ([1], [1]), ([2], [2]), ([], []), ([], []), ([5], [5]), ([6], [6]), ([7], [7]), ([8], [8]), ([3, 4, 9, 0, 1, 2, 3, 4, 5, 6, 7, 8, 9], [3, 4, 9])])
def rcB11 : List Nat := [0, 1, 3, 7, 0, 0, 32, 96, 224, 480, 1023]
theorem rcTab11 : rtab .any (opsOf Tryd.f22 11) = rcT11 := by kernel_rfl
theorem rcBits11 : waitsOk rcT11.2 rcB11 = true := by kernel_rfl
def rcT12 : Bool × List (List Nat × List Nat) := (true, [([], []), ([], []), ([], []), ([], []), ([], []), ([4], [4]), ([5], [5]), ([6], [6]), ([], []), ([8], [8]), ([7, 9], [7, 9]), ([], []), ([11], [11]), ([12], [12]), ([13], [13]), ([], []), ([15], [15]), ([14, 16, 10], [14, 16]), ([], []), ([18], [18]), ([19], [19]), ([20], [20]), ([], []), ([22], [22]), ([23], [23]), ([21, 24, 17], [21, 24]), ([], []), ([26], [26]), ([27], [27]), ([28], [28]), ([], []), ([30], [30]), ([31], [31]), ([32], [32]), ([], []), ([33, 34], [33, 34]), ([35], [35]), ([36], [36]), ([37], [37]), ([29, 38, 25], [29, 38]), ([0, 0, 4, 5, 6, 7, 8, 9, 10, 14, 17, 21, 25, 29, 33, 36, 39], [0]), ([40, 0, 4, 5, 6, 7, 8, 9, 10, 14, 17, 21, 25, 29, 33, 36, 39], [40]), ([41, 10, 39, 0, 4, 5, 6, 7, 8, 9, 10, 14, 17, 21, 25, 29, 33, 36, 39], [10, 41]), ([1, 0, 1, 4, 5, 6, 7, 8, 9, 10, 11, 12, 13, 14, 15, 16, 17, 21, 25, 29, 33, 36, 39, 40, 41, 42], [1]), ([43, 0, 1, 4, 5, 6, 7, 8, 9, 10, 11, 12, 13, 14, 15, 16, 17, 21, 25, 29, 33, 36, 39, 40, 41, 42], [43]), ([44, 17, 42, 0, 1, 4, 5, 6, 7, 8, 9, 10, 11, 12, 13, 14, 15, 16, 17, 21, 25, 29, 33, 36, 39, 40, 41, 42], [17, 44]), ([2, 0, 1, 2, 4, 5, 6, 7, 8, 9, 10, 11, 12, 13, 14, 15, 16, 17, 18, 19, 20, 21, 22, 23, 24, 25, 29, 33, 36, 39, 40, 41, 42, 43, 44, 45], [2]), ([46, 0, 1, 2, 4, 5, 6, 7, 8, 9, 10, 11, 12, 13, 14, 15, 16, 17, 18, 19, 20, 21, 22, 23, 24, 25, 29, 33, 36, 39, 40, 41, 42, 43, 44, 45], [46]), ([47, 25, 45, 0, 1, 2, 4, 5, 6, 7, 8, 9, 10, 11, 12, 13, 14, 15, 16, 17, 18, 19, 20, 21, 22, 23, 24, 25, 29, 33, 36, 39, 40, 41, 42, 43, 44, 45], [25, 47]), ([3, 0, 1, 2, 3, 4, 5, 6, 7, 8, 9, 10, 11, 12, 13, 14, 15, 16, 17, 18, 19, 20, 21, 22, 23, 24, 25, 26, 27, 28, 29, 30, 31, 32, 33, 34, 35, 36, 37, 38, 39, 40, 41, 42, 43, 44, 45, 46, 47, 48], [3]), ([49, 0, 1, 2, 3, 4, 5, 6, 7, 8, 9, 10, 11, 12, 13, 14, 15, 16, 17, 18, 19, 20, 21, 22, 23, 24, 25, 26, 27, 28, 29, 30, 31, 32, 33, 34, 35, 36, 37, 38, 39, 40, 41, 42, 43, 44, 45, 46, 47, 48], [49]), ([50, 39, 48, 0, 1, 2, 3, 4, 5, 6, 7, 8, 9, 10, 11, 12, 13, 14, 15, 16, 17, 18, 19, 20, 21, 22, 23, 24, 25, 26, 27, 28, 29, 30, 31, 32, 33, 34, 35, 36, 37, 38, 39, 40, 41, 42, 43, 44, 45, 46, 47, 48], [39, 50])])
def rcB12 : List Nat := [0, 0, 0, 0, 0, 16, 48, 112, 0, 256, 1008, 0, 2048, 6144, 14336, 0, 32768, 131056, 0, 262144, 786432, 1835008, 0, 4194304, 12582912, 33554416, 0, 67108864, 201326592, 469762048, 0, 1073741824, 3221225472, 7516192768, 0, 33285996544, 67645734912, 136365211648, 273804165120, 549755813872, 1099511627761, 2199023255537, 4398046511089, 8796093022195, 17592186044403, 35184372088819, 70368744177655, 140737488355319, 281474976710647, 562949953421311, 1125899906842623, 2251799813685247]
theorem rcTab12 : rtab .any (opsOf Tryd.f22 12) = rcT12 := by kernel_rfl
theorem rcBits12 : waitsOk rcT12.2 rcB12 = true := by kernel_rfl
set_option maxHeartbeats 8000000 in
set_option maxRecDepth 100000 in
theorem reached_calls {a : ByteArray} (g : Gnd a) (s : XS) (hs : stateB a s = true) (fn : Nat) (fc cc : Array Value) (he : ∀ args w, (callFunc fn args).run Tryd.prog w = .ok (.enter fn args) w) (w : World) (hm : MovesW a fn fc cc w) :
  Calls Tryd.prog 22 #[.agg #[.int .i64 s.f0, .int .i64 s.f1, .int .i64 s.f2.f0, .int .i64 s.f2.f1, .int .i64 s.f2.f2, .int .i64 s.f2.f3, .int .i64 s.f2.f4, .int .i64 s.f2.f5], .func (.func fn) fc cc] w fun e w' => ∃ v, e = .returned v ∧ ReachAt w' v (reachW a s) ∧ Below w.heap.size w w' := by
 have hu_ := Tryd.underlying28
 have hu2_ := Tryd.underlying52
 have HGD := aM g
 have HE := aM he
 have HMV := aM hm
 have HP0 := aM (RlO.start hs)
 have HWS := aM (wfS_state g hs)
 have B := aM (Below.refl w.heap.size w)
 generalize reachW a s = RR at HP0 ⊢
 clear g he hm hs
 go_enter Tryd.func22, Tryd.ntmps22
 go_wp2_with (first | ((with_reducible refine qH (N := 2) rfl ?_); go_loud (refine bE (N := 2) (cs := #[.int .i64 s.f0, .int .i64 s.f1, .int .i64 s.f2.f0, .int .i64 s.f2.f1, .int .i64 s.f2.f2, .int .i64 s.f2.f3, .int .i64 s.f2.f4, .int .i64 s.f2.f5]) (t := 28) ?_; intro gs hgs w1 hbox hb; have CS := aM hbox; replace B := aM (qy B.out B.out.size hb); clear hbox hb hgs)))
 refine qxA (n := 12) (S := fun w' => True) (ds := []) #[false, false, false, false, false, false, false, false, false, false, false, false] (by kernel_rfl) rfl rfl trivial (fun hHeld => ?_); refine qKA rcTab1 rcBits1 (fun HT_ HW_ => ?_)
 refine qTC [0, 1, 2, 3, 4, 5, 6, 7, 8, 9, 10, 11] (fun a0_ b a w' => ∃ (s13 : Value) (s14 : Value) (s15 : Value) (s16 : Value) (gm : Nat) (gp : Nat) (m5_ : Value) (m8_ : Value) (m9_ : Value) (m10_ : Value) (m11_ : Value), a = putSel a0_ b [(0, 12, .agg #[.int .i64 s.f0, .int .i64 s.f1, .int .i64 s.f2.f0, .int .i64 s.f2.f1, .int .i64 s.f2.f2, .int .i64 s.f2.f3, .int .i64 s.f2.f4, .int .i64 s.f2.f5]), (1, 13, s13), (2, 14, s14), (3, 15, s15), (4, 16, s16), (5, 17, m5_), (6, 18, .agg #[.int .i64 s.f0, .int .i64 s.f1, .int .i64 s.f2.f0, .int .i64 s.f2.f1, .int .i64 s.f2.f2, .int .i64 s.f2.f3, .int .i64 s.f2.f4, .int .i64 s.f2.f5]), (8, 19, m8_), (9, 20, m9_), (10, 21, m10_), (11, 5, m11_)] ∧ (Below w.heap.size w w') ∧ (w'.heap[gs]? = some (.cells #[.int .i64 s.f0, .int .i64 s.f1, .int .i64 s.f2.f0, .int .i64 s.f2.f1, .int .i64 s.f2.f2, .int .i64 s.f2.f3, .int .i64 s.f2.f4, .int .i64 s.f2.f5] 28 (0, 0))) ∧ (b 1 = true → Kd.R k28 28 w' w.heap.size (fun _ => True) s13 [s]) ∧ (b 2 = true → Kd.R (Kd.int .i64) 3 w' w.heap.size (fun _ => True) s14 [(-1 : Int)]) ∧ (b 3 = true → Kd.R (Kd.int .u8) 5 w' w.heap.size (fun _ => True) s15 [(0 : Int)]) ∧ (b 4 = true → Kd.R (Kd.int .i64) 3 w' w.heap.size (fun _ => True) s16 [(0 : Int)]) ∧ (b 2 = true → b 4 = true → ApartV s14 s16) ∧ (b 5 = true → w.heap.size ≤ gm) ∧ (b 5 = true → b 7 = false → mapW.Is w' gm []) ∧ (b 7 = true → mapW.Is w' gm [(s, 0)]) ∧ (b 10 = true → w'.heap[gp]? = some (.cells #[s13, s14, s15, s16, .map (some gm)] 52 (0, 0))) ∧ (b 10 = true → w.heap.size ≤ gp) ∧ (b 10 = true → gm ≠ gp) ∧ (b 5 = true → (m5_ : Value) = .map (some gm)) ∧ (b 8 = true → (m8_ : Value) = .map (some gm)) ∧ (b 9 = true → (m9_ : Value) = .agg #[s13, s14, s15, s16, .map (some gm)]) ∧ (b 10 = true → (m10_ : Value) = .pointer (some ⟨gp, 0, none⟩)) ∧ (b 11 = true → (m11_ : Value) = .pointer (some ⟨gp, 0, none⟩))) HT_.out HW_.out (by kernel_rfl) (by kernel_rfl) ?_ ?_ ?_
 ·exact ⟨.bool false, .bool false, .bool false, .bool false, 0, 0, .bool false, .bool false, .bool false, .bool false, .bool false, by simp only [putSel, Bool.false_eq_true, if_false], qm B.out, qE CS.out, fun h_ => absurd h_ (by decide), fun h_ => absurd h_ (by decide), fun h_ => absurd h_ (by decide), fun h_ => absurd h_ (by decide), fun h_ => absurd h_ (by decide), fun h_ => absurd h_ (by decide), fun h_ => absurd h_ (by decide), fun h_ => absurd h_ (by decide), fun h_ => absurd h_ (by decide), fun h_ => absurd h_ (by decide), fun h_ => absurd h_ (by decide), fun h_ => absurd h_ (by decide), fun h_ => absurd h_ (by decide), fun h_ => absurd h_ (by decide), fun h_ => absurd h_ (by decide), fun h_ => absurd h_ (by decide)⟩
 ·skip
  clear B CS
  refine qL ?_ ?_
  ·rintro b a w' ⟨s13, s14, s15, s16, gm, gp, m5_, m8_, m9_, m10_, m11_, ha, Q_B, Q_CS, Q_D1, Q_F1, Q_U1, Q_G1, Q_NFG, Q_HGM, Q_MA, Q_MB, Q_BP, Q_HGP, Q_HNE, Q_X5_, Q_X8_, Q_X9_, Q_X10_, Q_X11_⟩ hb_ hon hoff
   refine ⟨_, rfl, fun K hK => ?_⟩
   have e2 : a.tmps[2]? = some (.pointer (some ⟨gs, 0, none⟩)) := by rw [ha]; exact (qi rfl).trans rfl
   replace ha := aM ha
   have B := aM Q_B
   have CS := aM Q_CS
   have hc0_ : w'.cell? ⟨gs, 0, none⟩ = some (.int .i64 s.f0) := (qD CS.out 0).trans rfl
   have hc1_ : w'.cell? ⟨gs, 1, none⟩ = some (.int .i64 s.f1) := (qD CS.out 1).trans rfl
   have hc2_ : w'.cell? ⟨gs, 2, none⟩ = some (.int .i64 s.f2.f0) := (qD CS.out 2).trans rfl
   have hc3_ : w'.cell? ⟨gs, 3, none⟩ = some (.int .i64 s.f2.f1) := (qD CS.out 3).trans rfl
   have hc4_ : w'.cell? ⟨gs, 4, none⟩ = some (.int .i64 s.f2.f2) := (qD CS.out 4).trans rfl
   have hc5_ : w'.cell? ⟨gs, 5, none⟩ = some (.int .i64 s.f2.f3) := (qD CS.out 5).trans rfl
   have hc6_ : w'.cell? ⟨gs, 6, none⟩ = some (.int .i64 s.f2.f4) := (qD CS.out 6).trans rfl
   have hc7_ : w'.cell? ⟨gs, 7, none⟩ = some (.int .i64 s.f2.f5) := (qD CS.out 7).trans rfl
   refine qw (w1 := w') (v := .agg #[.int .i64 s.f0, .int .i64 s.f1, .int .i64 s.f2.f0, .int .i64 s.f2.f1, .int .i64 s.f2.f2, .int .i64 s.f2.f3, .int .i64 s.f2.f4, .int .i64 s.f2.f5]) (by rfl) rfl ?_ ?_
   ·go_simp
    (try simp only [i64_w])
    try rfl
   refine hK.out _ _ ⟨s13, s14, s15, s16, gm, gp, m5_, m8_, m9_, m10_, m11_, (by rw [ha.out]; exact qM 0 hb_ rfl rfl rfl), Q_B, Q_CS, fun h0_ => aF (hoff 1 kr) h0_, Q_F1, Q_U1, Q_G1, Q_NFG, Q_HGM, Q_MA, Q_MB, fun h0_ => aF (hoff 10 kr) h0_, fun h0_ => aF (hoff 10 kr) h0_, fun h0_ => aF (hoff 10 kr) h0_, Q_X5_, Q_X8_, fun h0_ => aF (hoff 9 kr) h0_, fun h0_ => aF (hoff 10 kr) h0_, fun h0_ => aF (hoff 11 kr) h0_⟩
  refine qL ?_ ?_
  ·rintro b a w' ⟨s13, s14, s15, s16, gm, gp, m5_, m8_, m9_, m10_, m11_, ha, Q_B, Q_CS, Q_D1, Q_F1, Q_U1, Q_G1, Q_NFG, Q_HGM, Q_MA, Q_MB, Q_BP, Q_HGP, Q_HNE, Q_X5_, Q_X8_, Q_X9_, Q_X10_, Q_X11_⟩ hb_ hon hoff
   refine ⟨_, rfl, fun K hK => ?_⟩
   have e12 : a.tmps[12]? = some (.agg #[.int .i64 s.f0, .int .i64 s.f1, .int .i64 s.f2.f0, .int .i64 s.f2.f1, .int .i64 s.f2.f2, .int .i64 s.f2.f3, .int .i64 s.f2.f4, .int .i64 s.f2.f5]) := by rw [ha]; exact qO (e := (0, 12, .agg #[.int .i64 s.f0, .int .i64 s.f1, .int .i64 s.f2.f0, .int .i64 s.f2.f1, .int .i64 s.f2.f2, .int .i64 s.f2.f3, .int .i64 s.f2.f4, .int .i64 s.f2.f5])) 0 rfl rfl (hon 0 kr) rfl
   replace ha := aM ha
   have B := aM Q_B
   have CS := aM Q_CS
   refine Kd.qeA k28 (w0 := w) w.heap.size 28 (by rfl) (N := 13) rfl (xs := ([s] : List _)) (inner := [.int .i64 s.f0, .int .i64 s.f1, .int .i64 s.f2.f0, .int .i64 s.f2.f1, .int .i64 s.f2.f2, .int .i64 s.f2.f3, .int .i64 s.f2.f4, .int .i64 s.f2.f5]) (ok := fun _ => True) (okp := fun _ => False) ?hr1 ?hp1 (fun _ hk => hk.elim) trivial B.out B.out.size (by simp) ?_
   case hr1 => first | (go_simp; done) | (go_simp; rfl)
   case hp1 => exact Reps.c8 (show Kd.M k28 _ _ _ s [.int .i64 s.f0, .int .i64 s.f1, .int .i64 s.f2.f0, .int .i64 s.f2.f1, .int .i64 s.f2.f2, .int .i64 s.f2.f3, .int .i64 s.f2.f4, .int .i64 s.f2.f5] from qbC _ _ _ _) (Reps.none _ _)
   intro v_ w1_ hR_ hB_ hg_ hnew_
   refine hK.out _ _ ⟨v_, s14, s15, s16, gm, gp, m5_, m8_, m9_, m10_, m11_, (by rw [ha.out]; exact qM 1 hb_ rfl rfl rfl), hB_, qh CS.out hg_ (by simp), fun _ => hR_, fun h0_ => plLit0 (Q_F1 h0_) hg_, fun h0_ => plLit0 (Q_U1 h0_) hg_, fun h0_ => plLit0 (Q_G1 h0_) hg_, Q_NFG, Q_HGM, fun h0_ h1_ => (Q_MA h0_ h1_).qUA (hg_.block gm (Q_MA h0_ h1_).lt (by simp)), fun h0_ => (Q_MB h0_).qUA (hg_.block gm (Q_MB h0_).lt (by simp)), fun h0_ => aF (hoff 10 kr) h0_, fun h0_ => aF (hoff 10 kr) h0_, fun h0_ => aF (hoff 10 kr) h0_, Q_X5_, Q_X8_, fun h0_ => aF (hoff 9 kr) h0_, fun h0_ => aF (hoff 10 kr) h0_, fun h0_ => aF (hoff 11 kr) h0_⟩
  refine qL ?_ ?_
  ·rintro b a w' ⟨s13, s14, s15, s16, gm, gp, m5_, m8_, m9_, m10_, m11_, ha, Q_B, Q_CS, Q_D1, Q_F1, Q_U1, Q_G1, Q_NFG, Q_HGM, Q_MA, Q_MB, Q_BP, Q_HGP, Q_HNE, Q_X5_, Q_X8_, Q_X9_, Q_X10_, Q_X11_⟩ hb_ hon hoff
   refine ⟨_, rfl, fun K hK => ?_⟩
   replace ha := aM ha
   have B := aM Q_B
   have CS := aM Q_CS
   refine Kd.qeA (Kd.int .i64) (w0 := w) w.heap.size 3 (by rfl) (N := 14) rfl (xs := ([(-1 : Int)] : List _)) (inner := [.int .i64 (-1)]) (ok := fun _ => True) (okp := fun _ => False) ?hr2 ?hp2 (fun _ hk => hk.elim) trivial B.out B.out.size (by simp) ?_
   case hr2 => first | (go_simp; done) | (go_simp; rfl)
   case hp2 => exact Reps.one (show Kd.M (Kd.int .i64) _ _ _ (-1 : Int) [.int .i64 (-1)] from rfl) (Reps.none _ _)
   intro v_ w1_ hR_ hB_ hg_ hnew_
   refine hK.out _ _ ⟨s13, v_, s15, s16, gm, gp, m5_, m8_, m9_, m10_, m11_, (by rw [ha.out]; exact qM 2 hb_ rfl rfl rfl), hB_, qh CS.out hg_ (by simp), fun h0_ => plLit0 (Q_D1 h0_) hg_, fun _ => hR_, fun h0_ => plLit0 (Q_U1 h0_) hg_, fun h0_ => plLit0 (Q_G1 h0_) hg_, fun _ h1_ => qmB hnew_ (Kd.R_lt (Q_G1 h1_)), Q_HGM, fun h0_ h1_ => (Q_MA h0_ h1_).qUA (hg_.block gm (Q_MA h0_ h1_).lt (by simp)), fun h0_ => (Q_MB h0_).qUA (hg_.block gm (Q_MB h0_).lt (by simp)), fun h0_ => aF (hoff 10 kr) h0_, fun h0_ => aF (hoff 10 kr) h0_, fun h0_ => aF (hoff 10 kr) h0_, Q_X5_, Q_X8_, fun h0_ => aF (hoff 9 kr) h0_, fun h0_ => aF (hoff 10 kr) h0_, fun h0_ => aF (hoff 11 kr) h0_⟩
  refine qL ?_ ?_
  ·rintro b a w' ⟨s13, s14, s15, s16, gm, gp, m5_, m8_, m9_, m10_, m11_, ha, Q_B, Q_CS, Q_D1, Q_F1, Q_U1, Q_G1, Q_NFG, Q_HGM, Q_MA, Q_MB, Q_BP, Q_HGP, Q_HNE, Q_X5_, Q_X8_, Q_X9_, Q_X10_, Q_X11_⟩ hb_ hon hoff
   refine ⟨_, rfl, fun K hK => ?_⟩
   replace ha := aM ha
   have B := aM Q_B
   have CS := aM Q_CS
   refine Kd.qeA (Kd.int .u8) (w0 := w) w.heap.size 5 (by rfl) (N := 15) rfl (xs := ([(0 : Int)] : List _)) (inner := [.int .u8 0]) (ok := fun _ => True) (okp := fun _ => False) ?hr3 ?hp3 (fun _ hk => hk.elim) trivial B.out B.out.size (by simp) ?_
   case hr3 => first | (go_simp; done) | (go_simp; rfl)
   case hp3 => exact Reps.one (show Kd.M (Kd.int .u8) _ _ _ (0 : Int) [.int .u8 0] from rfl) (Reps.none _ _)
   intro v_ w1_ hR_ hB_ hg_ hnew_
   refine hK.out _ _ ⟨s13, s14, v_, s16, gm, gp, m5_, m8_, m9_, m10_, m11_, (by rw [ha.out]; exact qM 3 hb_ rfl rfl rfl), hB_, qh CS.out hg_ (by simp), fun h0_ => plLit0 (Q_D1 h0_) hg_, fun h0_ => plLit0 (Q_F1 h0_) hg_, fun _ => hR_, fun h0_ => plLit0 (Q_G1 h0_) hg_, Q_NFG, Q_HGM, fun h0_ h1_ => (Q_MA h0_ h1_).qUA (hg_.block gm (Q_MA h0_ h1_).lt (by simp)), fun h0_ => (Q_MB h0_).qUA (hg_.block gm (Q_MB h0_).lt (by simp)), fun h0_ => aF (hoff 10 kr) h0_, fun h0_ => aF (hoff 10 kr) h0_, fun h0_ => aF (hoff 10 kr) h0_, Q_X5_, Q_X8_, fun h0_ => aF (hoff 9 kr) h0_, fun h0_ => aF (hoff 10 kr) h0_, fun h0_ => aF (hoff 11 kr) h0_⟩
  refine qL ?_ ?_
  ·rintro b a w' ⟨s13, s14, s15, s16, gm, gp, m5_, m8_, m9_, m10_, m11_, ha, Q_B, Q_CS, Q_D1, Q_F1, Q_U1, Q_G1, Q_NFG, Q_HGM, Q_MA, Q_MB, Q_BP, Q_HGP, Q_HNE, Q_X5_, Q_X8_, Q_X9_, Q_X10_, Q_X11_⟩ hb_ hon hoff
   refine ⟨_, rfl, fun K hK => ?_⟩
   replace ha := aM ha
   have B := aM Q_B
   have CS := aM Q_CS
   refine Kd.qeA (Kd.int .i64) (w0 := w) w.heap.size 3 (by rfl) (N := 16) rfl (xs := ([(0 : Int)] : List _)) (inner := [.int .i64 0]) (ok := fun _ => True) (okp := fun _ => False) ?hr4 ?hp4 (fun _ hk => hk.elim) trivial B.out B.out.size (by simp) ?_
   case hr4 => first | (go_simp; done) | (go_simp; rfl)
   case hp4 => exact Reps.one (show Kd.M (Kd.int .i64) _ _ _ (0 : Int) [.int .i64 0] from rfl) (Reps.none _ _)
   intro v_ w1_ hR_ hB_ hg_ hnew_
   refine hK.out _ _ ⟨s13, s14, s15, v_, gm, gp, m5_, m8_, m9_, m10_, m11_, (by rw [ha.out]; exact qM 4 hb_ rfl rfl rfl), hB_, qh CS.out hg_ (by simp), fun h0_ => plLit0 (Q_D1 h0_) hg_, fun h0_ => plLit0 (Q_F1 h0_) hg_, fun h0_ => plLit0 (Q_U1 h0_) hg_, fun _ => hR_, fun h0_ _ => (qmB hnew_ (Kd.R_lt (Q_F1 h0_))).symm, Q_HGM, fun h0_ h1_ => (Q_MA h0_ h1_).qUA (hg_.block gm (Q_MA h0_ h1_).lt (by simp)), fun h0_ => (Q_MB h0_).qUA (hg_.block gm (Q_MB h0_).lt (by simp)), fun h0_ => aF (hoff 10 kr) h0_, fun h0_ => aF (hoff 10 kr) h0_, fun h0_ => aF (hoff 10 kr) h0_, Q_X5_, Q_X8_, fun h0_ => aF (hoff 9 kr) h0_, fun h0_ => aF (hoff 10 kr) h0_, fun h0_ => aF (hoff 11 kr) h0_⟩
  refine qL ?_ ?_
  ·rintro b a w' ⟨s13, s14, s15, s16, gm, gp, m5_, m8_, m9_, m10_, m11_, ha, Q_B, Q_CS, Q_D1, Q_F1, Q_U1, Q_G1, Q_NFG, Q_HGM, Q_MA, Q_MB, Q_BP, Q_HGP, Q_HNE, Q_X5_, Q_X8_, Q_X9_, Q_X10_, Q_X11_⟩ hb_ hon hoff
   refine ⟨_, rfl, fun K hK => ?_⟩
   replace ha := aM ha
   have B := aM Q_B
   have CS := aM Q_CS
   refine qw (w1 := w'.alloc (.map #[] 0)) (v := .map (some w'.heap.size)) (by rfl) rfl ?hr5 ?_
   case hr5 => (have hmm_ := @run_makeMap Tryd.prog); first | (go_simp; done) | (go_simp; rfl)
   refine hK.out _ _ ⟨s13, s14, s15, s16, w'.heap.size, gp, (.map (some w'.heap.size)), m8_, m9_, m10_, m11_, (by rw [ha.out]; exact qM 5 hb_ rfl rfl rfl), qWA B.out _, qF CS.out _, fun h0_ => Kd.qo (Q_D1 h0_) _, fun h0_ => Kd.qo (Q_F1 h0_) _, fun h0_ => Kd.qo (Q_U1 h0_) _, fun h0_ => Kd.qo (Q_G1 h0_) _, Q_NFG, fun _ => B.out.size, fun _ _ => (show mapW.Is (w'.alloc (.map #[] 0)) w'.heap.size [] from MapKit.Is.made w'), fun h0_ => aF (hoff 7 kr) h0_, fun h0_ => aF (hoff 10 kr) h0_, fun h0_ => aF (hoff 10 kr) h0_, fun h0_ => aF (hoff 10 kr) h0_, fun _ => rfl, fun h0_ => aF (hoff 8 kr) h0_, fun h0_ => aF (hoff 9 kr) h0_, fun h0_ => aF (hoff 10 kr) h0_, fun h0_ => aF (hoff 11 kr) h0_⟩
  refine qL ?_ ?_
  ·rintro b a w' ⟨s13, s14, s15, s16, gm, gp, m5_, m8_, m9_, m10_, m11_, ha, Q_B, Q_CS, Q_D1, Q_F1, Q_U1, Q_G1, Q_NFG, Q_HGM, Q_MA, Q_MB, Q_BP, Q_HGP, Q_HNE, Q_X5_, Q_X8_, Q_X9_, Q_X10_, Q_X11_⟩ hb_ hon hoff
   refine ⟨_, rfl, fun K hK => ?_⟩
   have e2 : a.tmps[2]? = some (.pointer (some ⟨gs, 0, none⟩)) := by rw [ha]; exact (qi rfl).trans rfl
   replace ha := aM ha
   have B := aM Q_B
   have CS := aM Q_CS
   have hc0_ : w'.cell? ⟨gs, 0, none⟩ = some (.int .i64 s.f0) := (qD CS.out 0).trans rfl
   have hc1_ : w'.cell? ⟨gs, 1, none⟩ = some (.int .i64 s.f1) := (qD CS.out 1).trans rfl
   have hc2_ : w'.cell? ⟨gs, 2, none⟩ = some (.int .i64 s.f2.f0) := (qD CS.out 2).trans rfl
   have hc3_ : w'.cell? ⟨gs, 3, none⟩ = some (.int .i64 s.f2.f1) := (qD CS.out 3).trans rfl
   have hc4_ : w'.cell? ⟨gs, 4, none⟩ = some (.int .i64 s.f2.f2) := (qD CS.out 4).trans rfl
   have hc5_ : w'.cell? ⟨gs, 5, none⟩ = some (.int .i64 s.f2.f3) := (qD CS.out 5).trans rfl
   have hc6_ : w'.cell? ⟨gs, 6, none⟩ = some (.int .i64 s.f2.f4) := (qD CS.out 6).trans rfl
   have hc7_ : w'.cell? ⟨gs, 7, none⟩ = some (.int .i64 s.f2.f5) := (qD CS.out 7).trans rfl
   refine qw (w1 := w') (v := .agg #[.int .i64 s.f0, .int .i64 s.f1, .int .i64 s.f2.f0, .int .i64 s.f2.f1, .int .i64 s.f2.f2, .int .i64 s.f2.f3, .int .i64 s.f2.f4, .int .i64 s.f2.f5]) (by rfl) rfl ?_ ?_
   ·go_simp
    (try simp only [i64_w])
    try rfl
   refine hK.out _ _ ⟨s13, s14, s15, s16, gm, gp, m5_, m8_, m9_, m10_, m11_, (by rw [ha.out]; exact qM 6 hb_ rfl rfl rfl), Q_B, Q_CS, Q_D1, Q_F1, Q_U1, Q_G1, Q_NFG, Q_HGM, Q_MA, fun h0_ => aF (hoff 7 kr) h0_, fun h0_ => aF (hoff 10 kr) h0_, fun h0_ => aF (hoff 10 kr) h0_, fun h0_ => aF (hoff 10 kr) h0_, Q_X5_, fun h0_ => aF (hoff 8 kr) h0_, fun h0_ => aF (hoff 9 kr) h0_, fun h0_ => aF (hoff 10 kr) h0_, fun h0_ => aF (hoff 11 kr) h0_⟩
  refine qL ?_ ?_
  ·rintro b a w' ⟨s13, s14, s15, s16, gm, gp, m5_, m8_, m9_, m10_, m11_, ha, Q_B, Q_CS, Q_D1, Q_F1, Q_U1, Q_G1, Q_NFG, Q_HGM, Q_MA, Q_MB, Q_BP, Q_HGP, Q_HNE, Q_X5_, Q_X8_, Q_X9_, Q_X10_, Q_X11_⟩ hb_ hon hoff
   refine ⟨_, rfl, fun K hK => ?_⟩
   have e17 : a.tmps[17]? = some (m5_) := by rw [ha]; exact qO (e := (5, 17, m5_)) 5 rfl rfl (hon 5 kr) rfl
   rw [Q_X5_ (hon 5 kr)] at e17
   have e18 : a.tmps[18]? = some (.agg #[.int .i64 s.f0, .int .i64 s.f1, .int .i64 s.f2.f0, .int .i64 s.f2.f1, .int .i64 s.f2.f2, .int .i64 s.f2.f3, .int .i64 s.f2.f4, .int .i64 s.f2.f5]) := by rw [ha]; exact qO (e := (6, 18, .agg #[.int .i64 s.f0, .int .i64 s.f1, .int .i64 s.f2.f0, .int .i64 s.f2.f1, .int .i64 s.f2.f2, .int .i64 s.f2.f3, .int .i64 s.f2.f4, .int .i64 s.f2.f5])) 6 rfl rfl (hon 6 kr) rfl
   replace ha := aM ha
   have B := aM Q_B
   have CS := aM Q_CS
   have HGM := aM (Q_HGM (hon 5 kr))
   have MA := aM (Q_MA (hon 5 kr) hb_)
   obtain ⟨w1_, hrun_, hM1_, hgr_⟩ := MA.out.run_put (by decide) HWS.out (v := (0 : Int)) (show (Lit.int .i64 0).wf = true by decide)
   have hrun2_ : (Instr.mapUpdate 50 (.map (some gm)) (.agg #[.int .i64 s.f0, .int .i64 s.f1, .int .i64 s.f2.f0, .int .i64 s.f2.f1, .int .i64 s.f2.f2, .int .i64 s.f2.f3, .int .i64 s.f2.f4, .int .i64 s.f2.f5]) (.int .i64 0)).run Tryd.prog w' = .ok () w1_ := hrun_
   refine skip_ (w1 := w1_) (by rfl) rfl ?hr7 ?_
   case hr7 =>
    have a1_ := qjA e17
    have a2_ := qjA e18
    unfold execOp
    simp [a1_, a2_, show a.eval (.const (.int .i64 0)) = .int .i64 0 from rfl, hrun2_, Result.andThen]
   refine hK.out _ _ ⟨s13, s14, s15, s16, gm, gp, m5_, m8_, m9_, m10_, m11_, (by rw [ha.out]; exact qvA (v := undef) rfl), B.out.grown hgr_ B.out.size (fun k_ e_ => by cases e_; exact HGM.out), qh CS.out hgr_ (fun e_ => MA.out.off CS.out (by injection e_)), fun h0_ => MA.out.row (Q_D1 h0_) hgr_, fun h0_ => MA.out.row (Q_F1 h0_) hgr_, fun h0_ => MA.out.row (Q_U1 h0_) hgr_, fun h0_ => MA.out.row (Q_G1 h0_) hgr_, Q_NFG, Q_HGM, fun _ h1_ => absurd ((qVA b 7).symm.trans h1_) (by decide), fun _ => hM1_, fun h0_ => aF (hoff 10 kr) h0_, fun h0_ => aF (hoff 10 kr) h0_, fun h0_ => aF (hoff 10 kr) h0_, Q_X5_, fun h0_ => aF (hoff 8 kr) h0_, fun h0_ => aF (hoff 9 kr) h0_, fun h0_ => aF (hoff 10 kr) h0_, fun h0_ => aF (hoff 11 kr) h0_⟩
  refine qL ?_ ?_
  ·rintro b a w' ⟨s13, s14, s15, s16, gm, gp, m5_, m8_, m9_, m10_, m11_, ha, Q_B, Q_CS, Q_D1, Q_F1, Q_U1, Q_G1, Q_NFG, Q_HGM, Q_MA, Q_MB, Q_BP, Q_HGP, Q_HNE, Q_X5_, Q_X8_, Q_X9_, Q_X10_, Q_X11_⟩ hb_ hon hoff
   refine ⟨_, rfl, fun K hK => ?_⟩
   have e17 : a.tmps[17]? = some (m5_) := by rw [ha]; exact qO (e := (5, 17, m5_)) 5 rfl rfl (hon 5 kr) rfl
   rw [Q_X5_ (hon 5 kr)] at e17
   replace ha := aM ha
   have B := aM Q_B
   have CS := aM Q_CS
   have HGM := aM (Q_HGM (hon 5 kr))
   have MB := aM (Q_MB (hon 7 kr))
   refine qw (w1 := w') (v := .map (some gm)) (by rfl) rfl ?_ ?_
   ·go_simp
    (try simp only [i64_w])
    try rfl
   refine hK.out _ _ ⟨s13, s14, s15, s16, gm, gp, m5_, (.map (some gm)), m9_, m10_, m11_, (by rw [ha.out]; exact qM 7 hb_ rfl rfl rfl), Q_B, Q_CS, Q_D1, Q_F1, Q_U1, Q_G1, Q_NFG, Q_HGM, fun _ h1_ => aT (hon 7 kr) h1_, Q_MB, fun h0_ => aF (hoff 10 kr) h0_, fun h0_ => aF (hoff 10 kr) h0_, fun h0_ => aF (hoff 10 kr) h0_, Q_X5_, fun _ => rfl, fun h0_ => aF (hoff 9 kr) h0_, fun h0_ => aF (hoff 10 kr) h0_, fun h0_ => aF (hoff 11 kr) h0_⟩
  refine qL ?_ ?_
  ·rintro b a w' ⟨s13, s14, s15, s16, gm, gp, m5_, m8_, m9_, m10_, m11_, ha, Q_B, Q_CS, Q_D1, Q_F1, Q_U1, Q_G1, Q_NFG, Q_HGM, Q_MA, Q_MB, Q_BP, Q_HGP, Q_HNE, Q_X5_, Q_X8_, Q_X9_, Q_X10_, Q_X11_⟩ hb_ hon hoff
   refine ⟨_, rfl, fun K hK => ?_⟩
   have e13 : a.tmps[13]? = some (s13) := by rw [ha]; exact qO (e := (1, 13, s13)) 1 rfl rfl (hon 1 kr) rfl
   have e14 : a.tmps[14]? = some (s14) := by rw [ha]; exact qO (e := (2, 14, s14)) 2 rfl rfl (hon 2 kr) rfl
   have e15 : a.tmps[15]? = some (s15) := by rw [ha]; exact qO (e := (3, 15, s15)) 3 rfl rfl (hon 3 kr) rfl
   have e16 : a.tmps[16]? = some (s16) := by rw [ha]; exact qO (e := (4, 16, s16)) 4 rfl rfl (hon 4 kr) rfl
   have e19 : a.tmps[19]? = some (m8_) := by rw [ha]; exact qO (e := (8, 19, m8_)) 7 rfl rfl (hon 8 kr) rfl
   rw [Q_X8_ (hon 8 kr)] at e19
   replace ha := aM ha
   have B := aM Q_B
   have CS := aM Q_CS
   have D1 := aM (Q_D1 (hon 1 kr))
   have F1 := aM (Q_F1 (hon 2 kr))
   have U1 := aM (Q_U1 (hon 3 kr))
   have G1 := aM (Q_G1 (hon 4 kr))
   have NFG := aM (Q_NFG (hon 2 kr) (hon 4 kr))
   have HGM := aM (Q_HGM (hon 5 kr))
   have MB := aM (Q_MB (hon 7 kr))
   obtain ⟨A13_, c13_, rfl⟩ := Kd.qx D1.out
   obtain ⟨A14_, c14_, rfl⟩ := Kd.qx F1.out
   obtain ⟨A15_, c15_, rfl⟩ := Kd.qx U1.out
   obtain ⟨A16_, c16_, rfl⟩ := Kd.qx G1.out
   refine qw (w1 := w') (v := .agg #[(.slice A13_ [s].length c13_), (.slice A14_ [(-1 : Int)].length c14_), (.slice A15_ [(0 : Int)].length c15_), (.slice A16_ [(0 : Int)].length c16_), .map (some gm)]) (by rfl) rfl ?_ ?_
   ·go_simp
    (try simp only [i64_w])
    try rfl
   refine hK.out _ _ ⟨(.slice A13_ [s].length c13_), (.slice A14_ [(-1 : Int)].length c14_), (.slice A15_ [(0 : Int)].length c15_), (.slice A16_ [(0 : Int)].length c16_), gm, gp, m5_, m8_, (.agg #[(.slice A13_ [s].length c13_), (.slice A14_ [(-1 : Int)].length c14_), (.slice A15_ [(0 : Int)].length c15_), (.slice A16_ [(0 : Int)].length c16_), .map (some gm)]), m10_, m11_, (by rw [ha.out]; exact qM 8 hb_ rfl rfl rfl), Q_B, Q_CS, Q_D1, Q_F1, Q_U1, Q_G1, Q_NFG, Q_HGM, fun _ h1_ => aT (hon 7 kr) h1_, Q_MB, fun h0_ => aF (hoff 10 kr) h0_, fun h0_ => aF (hoff 10 kr) h0_, fun h0_ => aF (hoff 10 kr) h0_, Q_X5_, Q_X8_, fun _ => rfl, fun h0_ => aF (hoff 10 kr) h0_, fun h0_ => aF (hoff 11 kr) h0_⟩
  refine qL ?_ ?_
  ·rintro b a w' ⟨s13, s14, s15, s16, gm, gp, m5_, m8_, m9_, m10_, m11_, ha, Q_B, Q_CS, Q_D1, Q_F1, Q_U1, Q_G1, Q_NFG, Q_HGM, Q_MA, Q_MB, Q_BP, Q_HGP, Q_HNE, Q_X5_, Q_X8_, Q_X9_, Q_X10_, Q_X11_⟩ hb_ hon hoff
   refine ⟨_, rfl, fun K hK => ?_⟩
   have e20 : a.tmps[20]? = some (m9_) := by rw [ha]; exact qO (e := (9, 20, m9_)) 8 rfl rfl (hon 9 kr) rfl
   rw [Q_X9_ (hon 9 kr)] at e20
   replace ha := aM ha
   have B := aM Q_B
   have CS := aM Q_CS
   have D1 := aM (Q_D1 (hon 1 kr))
   have F1 := aM (Q_F1 (hon 2 kr))
   have U1 := aM (Q_U1 (hon 3 kr))
   have G1 := aM (Q_G1 (hon 4 kr))
   have NFG := aM (Q_NFG (hon 2 kr) (hon 4 kr))
   have HGM := aM (Q_HGM (hon 5 kr))
   have MB := aM (Q_MB (hon 7 kr))
   refine qhB (by rfl) rfl (cs := #[s13, s14, s15, s16, .map (some gm)]) (t := 52) ?hr10 ?_
   case hr10 => first | (go_simp; done) | (go_simp; rfl)
   intro gp_ hgp_ w1_ hbox_ hbl_
   refine hK.out _ _ ⟨s13, s14, s15, s16, gm, gp_, m5_, m8_, m9_, (.pointer (some ⟨gp_, 0, none⟩)), m11_, (by rw [ha.out]; exact qM 9 hb_ rfl rfl rfl), qy B.out B.out.size hbl_, qS CS.out hbl_, fun _ => Kd.qY D1.out hbl_, fun _ => Kd.qY F1.out hbl_, fun _ => Kd.qY U1.out hbl_, fun _ => Kd.qY G1.out hbl_, Q_NFG, Q_HGM, fun _ h1_ => aT (hon 7 kr) h1_, fun _ => MB.out.below hbl_, fun _ => hbox_, fun _ => (by rw [hgp_]; exact B.out.size), fun _ => ((MB.out.below hbl_).off hbox_).symm, Q_X5_, Q_X8_, Q_X9_, fun _ => rfl, fun h0_ => aF (hoff 11 kr) h0_⟩
  refine qL ?_ ?_
  ·rintro b a w' ⟨s13, s14, s15, s16, gm, gp, m5_, m8_, m9_, m10_, m11_, ha, Q_B, Q_CS, Q_D1, Q_F1, Q_U1, Q_G1, Q_NFG, Q_HGM, Q_MA, Q_MB, Q_BP, Q_HGP, Q_HNE, Q_X5_, Q_X8_, Q_X9_, Q_X10_, Q_X11_⟩ hb_ hon hoff
   refine ⟨_, rfl, fun K hK => ?_⟩
   have e21 : a.tmps[21]? = some (m10_) := by rw [ha]; exact qO (e := (10, 21, m10_)) 9 rfl rfl (hon 10 kr) rfl
   rw [Q_X10_ (hon 10 kr)] at e21
   replace ha := aM ha
   have B := aM Q_B
   have CS := aM Q_CS
   have D1 := aM (Q_D1 (hon 1 kr))
   have F1 := aM (Q_F1 (hon 2 kr))
   have U1 := aM (Q_U1 (hon 3 kr))
   have G1 := aM (Q_G1 (hon 4 kr))
   have NFG := aM (Q_NFG (hon 2 kr) (hon 4 kr))
   have HGM := aM (Q_HGM (hon 5 kr))
   have MB := aM (Q_MB (hon 7 kr))
   have BP := aM (Q_BP (hon 10 kr))
   have HGP := aM (Q_HGP (hon 10 kr))
   have HNE := aM (Q_HNE (hon 10 kr))
   refine qw (w1 := w') (v := .pointer (some ⟨gp, 0, none⟩)) (by rfl) rfl ?_ ?_
   ·go_simp
    (try simp only [i64_w])
    try rfl
   refine hK.out _ _ ⟨s13, s14, s15, s16, gm, gp, m5_, m8_, m9_, m10_, (.pointer (some ⟨gp, 0, none⟩)), (by rw [ha.out]; exact qM 10 hb_ rfl rfl rfl), Q_B, Q_CS, Q_D1, Q_F1, Q_U1, Q_G1, Q_NFG, Q_HGM, fun _ h1_ => aT (hon 7 kr) h1_, Q_MB, Q_BP, Q_HGP, Q_HNE, Q_X5_, Q_X8_, Q_X9_, Q_X10_, fun _ => rfl⟩
  exact qSB
 ·rintro b a w' hall ⟨s13, s14, s15, s16, gm, gp, m5_, m8_, m9_, m10_, m11_, ha, Q_B, Q_CS, Q_D1, Q_F1, Q_U1, Q_G1, Q_NFG, Q_HGM, Q_MA, Q_MB, Q_BP, Q_HGP, Q_HNE, Q_X5_, Q_X8_, Q_X9_, Q_X10_, Q_X11_⟩
  clear B CS
  have hb0_ := hall 0 (by kernel_rfl)
  have hb1_ := hall 1 (by kernel_rfl)
  have hb2_ := hall 2 (by kernel_rfl)
  have hb3_ := hall 3 (by kernel_rfl)
  have hb4_ := hall 4 (by kernel_rfl)
  have hb5_ := hall 5 (by kernel_rfl)
  have hb6_ := hall 6 (by kernel_rfl)
  have hb7_ := hall 7 (by kernel_rfl)
  have hb8_ := hall 8 (by kernel_rfl)
  have hb9_ := hall 9 (by kernel_rfl)
  have hb10_ := hall 10 (by kernel_rfl)
  have hb11_ := hall 11 (by kernel_rfl)
  subst ha
  obtain rfl := Q_X5_ hb5_
  obtain rfl := Q_X8_ hb8_
  obtain rfl := Q_X9_ hb9_
  obtain rfl := Q_X10_ hb10_
  obtain rfl := Q_X11_ hb11_
  simp only [putSel, hb0_, hb1_, hb2_, hb3_, hb4_, hb5_, hb6_, hb7_, hb8_, hb9_, hb10_, hb11_, if_true, Act.put, List.setIfInBounds_toArray, List.set_cons_zero, List.set_cons_succ]
  have B := aM Q_B
  clear Q_B
  have CS := aM Q_CS
  clear Q_CS
  have D1 := aM (Q_D1 hb1_)
  clear Q_D1
  have F1 := aM (Q_F1 hb2_)
  clear Q_F1
  have U1 := aM (Q_U1 hb3_)
  clear Q_U1
  have G1 := aM (Q_G1 hb4_)
  clear Q_G1
  have NFG := aM (Q_NFG hb2_ hb4_)
  clear Q_NFG
  have HGM := aM (Q_HGM hb5_)
  clear Q_HGM Q_MA
  have MB := aM (Q_MB hb7_)
  clear Q_MB
  have BP := aM (Q_BP hb10_)
  clear Q_BP
  have HGP := aM (Q_HGP hb10_)
  clear Q_HGP
  have HNE := aM (Q_HNE hb10_)
  clear Q_HNE hall hb0_ hb1_ hb2_ hb3_ hb4_ hb5_ hb6_ hb7_ hb8_ hb9_ hb10_ hb11_
  obtain ⟨c0, d0, e0⟩ := Kd.qx D1.out
  obtain rfl := e0
  obtain ⟨c3, d3, e3⟩ := Kd.qx G1.out
  obtain rfl := e3
  clear CS
  go_wp2
  go_loopg [6] 49000000 (fun gg v6 wq => ∃ (L : List (XS × WB)) (i : Nat) (v0 v1 v2 v3 : Value), v6 = .int .i64 i ∧ 49000000 - i ≤ gg ∧ Aside0 (RlO a L i RR) ∧ Aside0 (Kd.R k28 28 wq w.heap.size (fun _ => True) v0 (stW L)) ∧ Aside0 (Kd.R (Kd.int .i64) 3 wq w.heap.size (fun _ => True) v1 (fromW L)) ∧ Aside0 (Kd.R (Kd.int .u8) 5 wq w.heap.size (fun _ => True) v2 (signW L)) ∧ Aside0 (Kd.R (Kd.int .i64) 3 wq w.heap.size (fun _ => True) v3 (farW L)) ∧ Aside0 (wq.heap[gp]? = some (.cells #[v0, v1, v2, v3, .map (some gm)] 52 (0, 0))) ∧ Aside0 (mapW.Is wq gm (metW L 0)) ∧ Aside0 (ApartV v1 v3) ∧ Aside0 (Below w.heap.size w wq))
  case atStart => exact ⟨[(s, (0, (-1, 0)))], 0, _, _, _, _, rfl, by omega, HP0, D1, F1, U1, G1, BP, MB, NFG, B⟩
  case round =>
   clear HP0 D1 F1 U1 G1 BP MB NFG B
   obtain ⟨L, i, v0, v1, v2, v3, rfl, hgk, HO, D0, F0, U0, G0, BP, M0, NFG, B⟩ := hrel
   rename World => wr
   have hlen := HO.out.ok.len HGD.out
   have hle := HO.out.le
   obtain ⟨Ad, cd, rfl⟩ := Kd.qx D0.out
   obtain ⟨n0, hn0⟩ : ∃ n0, (stW L).length = n0 := ⟨_, rfl⟩
   have hln : n0 = L.length := by rw [← hn0]; exact List.length_map _
   rw [hn0] at D0 BP
   have hc0 : wr.cell? ⟨gp, 0, none⟩ = some (.slice Ad n0 cd) := (qD BP.out 0).trans rfl
   by_cases hlt : i < L.length
   ·have hltz : (i : Int) < (n0 : Int) := by omega
    obtain ⟨⟨x, p⟩, hx⟩ : ∃ z, L[i]? = some z := ⟨_, List.getElem?_eq_getElem hlt⟩
    have HN := aM (HO.out.inner HGD.out hx)
    have HI9 := aM (show i < 49000000 by omega)
    clear hx hn0 hle HO hlen
    go_wp2
    clear hltz hc0 hln hlt
    go_loopg [31] 4 (fun gg v31 wq => ∃ (L : List (XS × WB)) (d : Nat) (v0 v1 v2 v3 : Value), v31 = .int .i64 d ∧ 4 - d ≤ gg ∧ Aside0 (d ≤ 4) ∧ Aside0 (RlN a L i d x p RR) ∧ Aside0 (Kd.R k28 28 wq w.heap.size (fun _ => True) v0 (stW L)) ∧ Aside0 (Kd.R (Kd.int .i64) 3 wq w.heap.size (fun _ => True) v1 (fromW L)) ∧ Aside0 (Kd.R (Kd.int .u8) 5 wq w.heap.size (fun _ => True) v2 (signW L)) ∧ Aside0 (Kd.R (Kd.int .i64) 3 wq w.heap.size (fun _ => True) v3 (farW L)) ∧ Aside0 (wq.heap[gp]? = some (.cells #[v0, v1, v2, v3, .map (some gm)] 52 (0, 0))) ∧ Aside0 (mapW.Is wq gm (metW L 0)) ∧ Aside0 (ApartV v1 v3) ∧ Aside0 (Below w.heap.size w wq))
    case atStart => exact ⟨L, 0, _, _, _, _, rfl, by omega, ⟨by omega⟩, HN, D0, F0, U0, G0, BP, M0, NFG, B⟩
    case round =>
     clear HN D0 F0 U0 G0 BP M0 NFG B
     obtain ⟨L2, d, v0, v1, v2, v3, rfl, hgj, HD4, HN, D0, F0, U0, G0, BP, M0, NFG, B⟩ := hrel
     rename World => wq
     by_cases hd : d < 4
     ·have hdz : (d : Int) < 4 := by omega
      have hd0 : (0 : Int) ≤ (d : Int) := by omega
      have HD := aM hd
      obtain ⟨sg, hsg⟩ : ∃ sg, dirC (d : Int) = sg := ⟨_, rfl⟩
      have hsd := rcSign d hd
      rw [hsg] at hsd
      have hix := rcIx ⟨#[110, 101, 115, 119]⟩ d sg hsd.1
      obtain ⟨own, hown⟩ : ∃ own, rollS x (d : Int) = own := ⟨_, rfl⟩
      obtain ⟨can, hcan⟩ : ∃ can, floorB a own.f0 own.f1 = can := ⟨_, rfl⟩
      have HSG := aM hsg
      have HOWN := aM (show rollS x (dOf sg) = own ∧ floorB a own.f0 own.f1 = can from ⟨by rw [hsd.2]; exact hown, hcan⟩)
      have hxs := HN.out.ok.ok (x, p) (List.mem_of_getElem? HN.out.at_)
      have HXS := aM hxs
      have HWO := aM (show wfS own by rw [← hown]; exact wfS_roll HGD.out hxs _)
      have HRO := aM (show rollO a x (d : Int) = if can = true then some own else none by unfold rollO; rw [hown, hcan])
      have hl2 := HN.out.ok.len HGD.out
      have hil := (List.getElem?_eq_some_iff.1 HN.out.at_).1
      have hpx := HN.out.px
      obtain ⟨ds, hds⟩ : ∃ ds, stW L2 = ds := ⟨_, rfl⟩
      obtain ⟨fs, hfs⟩ : ∃ fs, fromW L2 = fs := ⟨_, rfl⟩
      obtain ⟨us, hus⟩ : ∃ us, signW L2 = us := ⟨_, rfl⟩
      obtain ⟨qs, hqs⟩ : ∃ qs, farW L2 = qs := ⟨_, rfl⟩
      obtain ⟨met, hmet⟩ : ∃ met, metW L2 0 = met := ⟨_, rfl⟩
      obtain ⟨p1, hp1⟩ : ∃ p1, p.1 = p1 := ⟨_, rfl⟩
      obtain ⟨pl, hpl⟩ : ∃ pl, mapW.look met own = pl := ⟨_, rfl⟩
      obtain ⟨mt, hmt⟩ : ∃ mt, MapKit.met met own = mt := ⟨_, rfl⟩
      have hld : ds.length = L2.length := by rw [← hds]; exact List.length_map _
      have hlq : qs.length = L2.length := by rw [← hqs]; exact List.length_map _
      have HBD := aM (show ds.length ≤ 49000000 ∧ fs.length ≤ 49000000 ∧ us.length ≤ 49000000 ∧ qs.length ≤ 49000000 from ⟨by omega, by rw [← hfs, List.length_map]; exact hl2, by rw [← hus, List.length_map]; exact hl2, by omega⟩)
      have HML := aM (show met.length < maxLen by rw [← hmet, metW_len]; unfold maxLen; omega)
      have HLOOK := aM (show ∀ W, mapW.Is W gm met → (Instr.lookup 50 (.map (some gm)) (.agg #[.int .i64 own.f0, .int .i64 own.f1, .int .i64 own.f2.f0, .int .i64 own.f2.f1, .int .i64 own.f2.f2, .int .i64 own.f2.f3, .int .i64 own.f2.f4, .int .i64 own.f2.f5]) true).run Tryd.prog W = .ok (.tuple #[.int .i64 pl, .bool mt]) W from fun W hW => by rw [← hpl, ← hmt]; exact hW.run_look_ok HWO.out)
      have HMT := aM (show mt = decide (own ∈ ds) by rw [← hmt, ← hmet, ← hds]; exact metW_any L2 own 0)
      have HRD := aM (show qXB ds (i : Int) = x by unfold qXB; rw [Int.toNat_natCast, List.getD_eq_getElem?_getD, ← hds, List.getElem?_map, HN.out.at_]; rfl)
      have HRQ := aM (show rd qs (i : Int) = p1 by unfold rd; rw [Int.toNat_natCast, List.getD_eq_getElem?_getD, ← hqs, List.getElem?_map, HN.out.at_]; exact hp1)
      have HI9' := HI9.out
      have HW1 := aM (show IntKind.i64.wrap (p1 + 1) = p1 + 1 by rw [IntKind.wrap_i64]; omega)
      rw [hds] at D0
      rw [hfs] at F0
      rw [hus] at U0
      rw [hqs] at G0
      rw [hmet] at M0
      obtain ⟨n, hn⟩ : ∃ n, ds.length = n := ⟨_, rfl⟩
      have hqn : qs.length = n := by omega
      obtain ⟨Ad, cd, rfl⟩ := Kd.qx D0.out
      obtain ⟨A3, c3, rfl⟩ := Kd.qx G0.out
      rw [hn] at D0 BP
      rw [hqn] at G0 BP NFG
      obtain ⟨ad, had⟩ : ∃ ad, Ad = some ad := by obtain ⟨ad, e, _⟩ := (Kd.qT D0.out).2.2.2.2 (by omega); exact ⟨ad, e⟩
      subst had
      obtain ⟨a3, ha3⟩ : ∃ a3, A3 = some a3 := by obtain ⟨ad, e, _⟩ := (Kd.qT G0.out).2.2.2.2 (by omega); exact ⟨ad, e⟩
      subst ha3
      have hin : (i : Int) < (n : Int) := by omega
      have hi0 : (0 : Int) ≤ (i : Int) := by omega
      have HI0 := aM hi0
      have HIN := aM hin
      have HIND := aM (show (i : Int) < (ds.length : Int) by omega)
      have HINQ := aM (show (i : Int) < (qs.length : Int) by omega)
      have HWN := aM (show mapW.okV (n : Int) from wf_of_place (by omega))
      have HEQ := aM (show stW L2 = ds ∧ fromW L2 = fs ∧ signW L2 = us ∧ farW L2 = qs ∧ metW L2 0 = met ∧ p.1 = p1 ∧ n = L2.length from ⟨hds, hfs, hus, hqs, hmet, hp1, by omega⟩)
      clear hsg hsd hown hcan hxs hl2 hil hpx hds hfs hus hqs hmet hp1 hpl hmt hld hlq HI9' hn hqn hd
      go_wp2
      refine qxA (n := 17) (S := fun w' => True) (ds := []) #[false, false, false, false, false, false, false, false, false, false, false, false, false, false, false, false, false] (by kernel_rfl) rfl rfl trivial (fun hHeld => ?_); refine qKA rcTab8 rcBits8 (fun HT_ HW_ => ?_)
      refine pS (i := 0) (N := some 35) #[true, false, false, false, false, false, false, false, false, false, false, false, false, false, false, false, false] HT_ ?_
      refine pS (i := 1) (N := some 36) #[true, true, false, false, false, false, false, false, false, false, false, false, false, false, false, false, false] HT_ ?_
      refine pS (i := 2) (N := some 37) #[true, true, true, false, false, false, false, false, false, false, false, false, false, false, false, false, false] HT_ ?_
      refine pS (i := 3) (N := some 38) #[true, true, true, true, false, false, false, false, false, false, false, false, false, false, false, false, false] HT_ ?_
      refine pS (i := 5) (N := some 40) #[true, true, true, true, false, true, false, false, false, false, false, false, false, false, false, false, false] HT_ ?_
      refine pS (i := 8) (N := some 43) #[true, true, true, true, false, true, false, false, true, false, false, false, false, false, false, false, false] HT_ ?_
      refine pS (i := 9) (N := some 44) #[true, true, true, true, false, true, false, false, true, true, false, false, false, false, false, false, false] HT_ ?_
      refine qTC [4, 6, 7, 10, 11, 12, 13, 14, 15, 16] (fun a0_ b a w' => ∃ (g8 : Nat) (m14_ : Value), a = putSel a0_ b [(4, 39, .slice (some ad) n cd), (6, 41, .pointer (some (ad.add (i * 8)))), (7, 42, .agg #[.int .i64 x.f0, .int .i64 x.f1, .int .i64 x.f2.f0, .int .i64 x.f2.f1, .int .i64 x.f2.f2, .int .i64 x.f2.f3, .int .i64 x.f2.f4, .int .i64 x.f2.f5]), (10, 45, .tuple #[.agg #[.int .i64 own.f0, .int .i64 own.f1, .int .i64 own.f2.f0, .int .i64 own.f2.f1, .int .i64 own.f2.f2, .int .i64 own.f2.f3, .int .i64 own.f2.f4, .int .i64 own.f2.f5], .bool can]), (11, 34, .tuple #[.agg #[.int .i64 own.f0, .int .i64 own.f1, .int .i64 own.f2.f0, .int .i64 own.f2.f1, .int .i64 own.f2.f2, .int .i64 own.f2.f3, .int .i64 own.f2.f4, .int .i64 own.f2.f5], .bool can]), (12, 46, .agg #[.int .i64 own.f0, .int .i64 own.f1, .int .i64 own.f2.f0, .int .i64 own.f2.f1, .int .i64 own.f2.f2, .int .i64 own.f2.f3, .int .i64 own.f2.f4, .int .i64 own.f2.f5]), (13, 47, .bool can), (14, 8, m14_), (16, 9, .bool can)] ∧ (Below w.heap.size w w') ∧ (Kd.R k28 28 w' w.heap.size (fun _ => True) (.slice (some ad) n cd) ds) ∧ (Kd.R (Kd.int .i64) 3 w' w.heap.size (fun _ => True) v1 fs) ∧ (Kd.R (Kd.int .u8) 5 w' w.heap.size (fun _ => True) v2 us) ∧ (Kd.R (Kd.int .i64) 3 w' w.heap.size (fun _ => True) (.slice (some a3) n c3) qs) ∧ (mapW.Is w' gm met) ∧ (w'.heap[gp]? = some (.cells #[.slice (some ad) n cd, v1, v2, .slice (some a3) n c3, .map (some gm)] 52 (0, 0))) ∧ (b 14 = true → w.heap.size ≤ g8) ∧ (b 14 = true → ad.block ≠ g8) ∧ (b 14 = true → gp ≠ g8) ∧ (b 14 = true → gm ≠ g8) ∧ (b 14 = true → b 15 = false → w'.heap[g8]? = some (.cells #[.int .i64 0, .int .i64 0, .int .i64 0, .int .i64 0, .int .i64 0, .int .i64 0, .int .i64 0, .int .i64 0] 28 (0, 0))) ∧ (b 15 = true → w'.heap[g8]? = some (.cells #[.int .i64 own.f0, .int .i64 own.f1, .int .i64 own.f2.f0, .int .i64 own.f2.f1, .int .i64 own.f2.f2, .int .i64 own.f2.f3, .int .i64 own.f2.f4, .int .i64 own.f2.f5] 28 (0, 0))) ∧ (b 14 = true → (m14_ : Value) = .pointer (some ⟨g8, 0, none⟩))) HT_.out HW_.out (by kernel_rfl) (by kernel_rfl) ?_ ?_ ?_
      ·exact ⟨0, .bool false, by simp only [putSel, Bool.false_eq_true, if_false], qm B.out, Kd.qc D0.out, Kd.qc F0.out, Kd.qc U0.out, Kd.qc G0.out, M0.out.drew, qE BP.out, fun h_ => absurd h_ (by decide), fun h_ => absurd h_ (by decide), fun h_ => absurd h_ (by decide), fun h_ => absurd h_ (by decide), fun h_ => absurd h_ (by decide), fun h_ => absurd h_ (by decide), fun h_ => absurd h_ (by decide)⟩
      ·skip
       clear B BP D0 F0 G0 M0 U0
       refine qL ?_ ?_
       ·rintro b a w' ⟨g8, m14_, ha, Q_B, Q_D0, Q_F0, Q_U0, Q_G0, Q_M0, Q_BP, Q_HG8, Q_N8, Q_NP8, Q_NM8, Q_LO, Q_LS, Q_X14_⟩ hb_ hon hoff
        refine ⟨_, rfl, fun K hK => ?_⟩
        have e38 : a.tmps[38]? = some (.pointer (some ⟨gp, 0, none⟩)) := by rw [ha]; exact (qi rfl).trans rfl
        replace ha := aM ha
        have B := aM Q_B
        have D0 := aM Q_D0
        have F0 := aM Q_F0
        have U0 := aM Q_U0
        have G0 := aM Q_G0
        have M0 := aM Q_M0
        have BP := aM Q_BP
        have hc_ : w'.cell? ⟨gp, 0, none⟩ = some (.slice (some ad) n cd) := (qD BP.out 0).trans rfl
        refine qw (w1 := w') (v := .slice (some ad) n cd) (by rfl) rfl ?_ ?_
        ·go_simp
         (try simp only [i64_w])
         try rfl
        refine hK.out _ _ ⟨g8, m14_, (by rw [ha.out]; exact qM 0 hb_ rfl rfl rfl), Q_B, Q_D0, Q_F0, Q_U0, Q_G0, Q_M0, Q_BP, Q_HG8, Q_N8, Q_NP8, Q_NM8, Q_LO, fun h0_ => aF (hoff 15 kr) h0_, Q_X14_⟩
       refine qL ?_ ?_
       ·rintro b a w' ⟨g8, m14_, ha, Q_B, Q_D0, Q_F0, Q_U0, Q_G0, Q_M0, Q_BP, Q_HG8, Q_N8, Q_NP8, Q_NM8, Q_LO, Q_LS, Q_X14_⟩ hb_ hon hoff
        refine ⟨_, rfl, fun K hK => ?_⟩
        have e39 : a.tmps[39]? = some (.slice (some ad) n cd) := by rw [ha]; exact qO (e := (4, 39, .slice (some ad) n cd)) 0 rfl rfl (hon 4 kr) rfl
        have e40 : a.tmps[40]? = some (.int .i64 (i : Int)) := by rw [ha]; exact (qi rfl).trans rfl
        replace ha := aM ha
        have B := aM Q_B
        have D0 := aM Q_D0
        have F0 := aM Q_F0
        have U0 := aM Q_U0
        have G0 := aM Q_G0
        have M0 := aM Q_M0
        have BP := aM Q_BP
        refine qw (w1 := w') (v := .pointer (some (ad.add (i * 8)))) (by rfl) rfl ?_ ?_
        ·go_simp
         (try simp only [i64_w])
         try rfl
        refine hK.out _ _ ⟨g8, m14_, (by rw [ha.out]; exact qM 1 hb_ rfl rfl rfl), Q_B, Q_D0, Q_F0, Q_U0, Q_G0, Q_M0, Q_BP, Q_HG8, Q_N8, Q_NP8, Q_NM8, Q_LO, fun h0_ => aF (hoff 15 kr) h0_, Q_X14_⟩
       refine qL ?_ ?_
       ·rintro b a w' ⟨g8, m14_, ha, Q_B, Q_D0, Q_F0, Q_U0, Q_G0, Q_M0, Q_BP, Q_HG8, Q_N8, Q_NP8, Q_NM8, Q_LO, Q_LS, Q_X14_⟩ hb_ hon hoff
        refine ⟨_, rfl, fun K hK => ?_⟩
        have e41 : a.tmps[41]? = some (.pointer (some (ad.add (i * 8)))) := by rw [ha]; exact qO (e := (6, 41, .pointer (some (ad.add (i * 8))))) 1 rfl rfl (hon 6 kr) rfl
        replace ha := aM ha
        have B := aM Q_B
        have D0 := aM Q_D0
        have F0 := aM Q_F0
        have U0 := aM Q_U0
        have G0 := aM Q_G0
        have M0 := aM Q_M0
        have BP := aM Q_BP
        obtain ⟨ad_, e_, hx0_, hx1_, hx2_, hx3_, hx4_, hx5_, hx6_, hx7_⟩ := qzC (Kd.qT D0.out).2.2 (i : Int) HI0.out HIND.out
        obtain rfl : ad = ad_ := by injection e_
        rw [HRD.out, Int.toNat_natCast] at hx0_ hx1_ hx2_ hx3_ hx4_ hx5_ hx6_ hx7_
        refine qw (w1 := w') (v := .agg #[.int .i64 x.f0, .int .i64 x.f1, .int .i64 x.f2.f0, .int .i64 x.f2.f1, .int .i64 x.f2.f2, .int .i64 x.f2.f3, .int .i64 x.f2.f4, .int .i64 x.f2.f5]) (by rfl) rfl ?_ ?_
        ·go_simp
         (try simp only [i64_w])
         try rfl
        refine hK.out _ _ ⟨g8, m14_, (by rw [ha.out]; exact qM 2 hb_ rfl rfl rfl), Q_B, Q_D0, Q_F0, Q_U0, Q_G0, Q_M0, Q_BP, Q_HG8, Q_N8, Q_NP8, Q_NM8, Q_LO, fun h0_ => aF (hoff 15 kr) h0_, Q_X14_⟩
       refine qL ?_ ?_
       ·rintro b a w' ⟨g8, m14_, ha, Q_B, Q_D0, Q_F0, Q_U0, Q_G0, Q_M0, Q_BP, Q_HG8, Q_N8, Q_NP8, Q_NM8, Q_LO, Q_LS, Q_X14_⟩ hb_ hon hoff
        refine ⟨_, rfl, fun K hK => ?_⟩
        have e35 : a.tmps[35]? = some (.func (.func fn) fc cc) := by rw [ha]; exact (qi rfl).trans rfl
        have e42 : a.tmps[42]? = some (.agg #[.int .i64 x.f0, .int .i64 x.f1, .int .i64 x.f2.f0, .int .i64 x.f2.f1, .int .i64 x.f2.f2, .int .i64 x.f2.f3, .int .i64 x.f2.f4, .int .i64 x.f2.f5]) := by rw [ha]; exact qO (e := (7, 42, .agg #[.int .i64 x.f0, .int .i64 x.f1, .int .i64 x.f2.f0, .int .i64 x.f2.f1, .int .i64 x.f2.f2, .int .i64 x.f2.f3, .int .i64 x.f2.f4, .int .i64 x.f2.f5])) 2 rfl rfl (hon 7 kr) rfl
        have e44 : a.tmps[44]? = some (.int .u8 sg) := by rw [ha]; exact (qi rfl).trans rfl
        replace ha := aM ha
        have B := aM Q_B
        have D0 := aM Q_D0
        have F0 := aM Q_F0
        have U0 := aM Q_U0
        have G0 := aM Q_G0
        have M0 := aM Q_M0
        have BP := aM Q_BP
        refine goesVG_ 35 fc cc #[.agg #[.int .i64 x.f0, .int .i64 x.f1, .int .i64 x.f2.f0, .int .i64 x.f2.f1, .int .i64 x.f2.f2, .int .i64 x.f2.f3, .int .i64 x.f2.f4, .int .i64 x.f2.f5], .int .u8 sg] (fc ++ #[.agg #[.int .i64 x.f0, .int .i64 x.f1, .int .i64 x.f2.f0, .int .i64 x.f2.f1, .int .i64 x.f2.f2, .int .i64 x.f2.f3, .int .i64 x.f2.f4, .int .i64 x.f2.f5], .int .u8 sg] ++ cc) HE.out (by rfl) rfl rfl (qjA e35) (by simp only [List.map_toArray, List.map_cons, List.map_nil, qjA e42, qjA e44]) rfl ?_
        have hmv_ := HMV.out w' x sg HXS.out B.out
        rw [HOWN.out.1, HOWN.out.2] at hmv_
        simp only [encS] at hmv_
        refine hmv_.mono ?_
        rintro e_ w1_ ⟨rfl, hb_1⟩
        refine ⟨_, rfl, ?_⟩
        refine hK.out _ _ ⟨g8, m14_, (by rw [ha.out]; exact qM 3 hb_ rfl rfl rfl), qy B.out B.out.size hb_1, Kd.qY D0.out hb_1, Kd.qY F0.out hb_1, Kd.qY U0.out hb_1, Kd.qY G0.out hb_1, M0.out.below hb_1, qS BP.out hb_1, Q_HG8, Q_N8, Q_NP8, Q_NM8, fun h0_ h1_ => qS (Q_LO h0_ h1_) hb_1, fun h0_ => aF (hoff 15 kr) h0_, Q_X14_⟩
       refine qL ?_ ?_
       ·rintro b a w' ⟨g8, m14_, ha, Q_B, Q_D0, Q_F0, Q_U0, Q_G0, Q_M0, Q_BP, Q_HG8, Q_N8, Q_NP8, Q_NM8, Q_LO, Q_LS, Q_X14_⟩ hb_ hon hoff
        refine ⟨_, rfl, fun K hK => ?_⟩
        have e45 : a.tmps[45]? = some (.tuple #[.agg #[.int .i64 own.f0, .int .i64 own.f1, .int .i64 own.f2.f0, .int .i64 own.f2.f1, .int .i64 own.f2.f2, .int .i64 own.f2.f3, .int .i64 own.f2.f4, .int .i64 own.f2.f5], .bool can]) := by rw [ha]; exact qO (e := (10, 45, .tuple #[.agg #[.int .i64 own.f0, .int .i64 own.f1, .int .i64 own.f2.f0, .int .i64 own.f2.f1, .int .i64 own.f2.f2, .int .i64 own.f2.f3, .int .i64 own.f2.f4, .int .i64 own.f2.f5], .bool can])) 3 rfl rfl (hon 10 kr) rfl
        replace ha := aM ha
        have B := aM Q_B
        have D0 := aM Q_D0
        have F0 := aM Q_F0
        have U0 := aM Q_U0
        have G0 := aM Q_G0
        have M0 := aM Q_M0
        have BP := aM Q_BP
        refine qw (w1 := w') (v := .tuple #[.agg #[.int .i64 own.f0, .int .i64 own.f1, .int .i64 own.f2.f0, .int .i64 own.f2.f1, .int .i64 own.f2.f2, .int .i64 own.f2.f3, .int .i64 own.f2.f4, .int .i64 own.f2.f5], .bool can]) (by rfl) rfl ?_ ?_
        ·go_simp
         (try simp only [i64_w])
         try rfl
        refine hK.out _ _ ⟨g8, m14_, (by rw [ha.out]; exact qM 4 hb_ rfl rfl rfl), Q_B, Q_D0, Q_F0, Q_U0, Q_G0, Q_M0, Q_BP, Q_HG8, Q_N8, Q_NP8, Q_NM8, Q_LO, fun h0_ => aF (hoff 15 kr) h0_, Q_X14_⟩
       refine qL ?_ ?_
       ·rintro b a w' ⟨g8, m14_, ha, Q_B, Q_D0, Q_F0, Q_U0, Q_G0, Q_M0, Q_BP, Q_HG8, Q_N8, Q_NP8, Q_NM8, Q_LO, Q_LS, Q_X14_⟩ hb_ hon hoff
        refine ⟨_, rfl, fun K hK => ?_⟩
        have e34 : a.tmps[34]? = some (.tuple #[.agg #[.int .i64 own.f0, .int .i64 own.f1, .int .i64 own.f2.f0, .int .i64 own.f2.f1, .int .i64 own.f2.f2, .int .i64 own.f2.f3, .int .i64 own.f2.f4, .int .i64 own.f2.f5], .bool can]) := by rw [ha]; exact qO (e := (11, 34, .tuple #[.agg #[.int .i64 own.f0, .int .i64 own.f1, .int .i64 own.f2.f0, .int .i64 own.f2.f1, .int .i64 own.f2.f2, .int .i64 own.f2.f3, .int .i64 own.f2.f4, .int .i64 own.f2.f5], .bool can])) 4 rfl rfl (hon 11 kr) rfl
        replace ha := aM ha
        have B := aM Q_B
        have D0 := aM Q_D0
        have F0 := aM Q_F0
        have U0 := aM Q_U0
        have G0 := aM Q_G0
        have M0 := aM Q_M0
        have BP := aM Q_BP
        refine qw (w1 := w') (v := .agg #[.int .i64 own.f0, .int .i64 own.f1, .int .i64 own.f2.f0, .int .i64 own.f2.f1, .int .i64 own.f2.f2, .int .i64 own.f2.f3, .int .i64 own.f2.f4, .int .i64 own.f2.f5]) (by rfl) rfl ?_ ?_
        ·go_simp
         (try simp only [i64_w])
         try rfl
        refine hK.out _ _ ⟨g8, m14_, (by rw [ha.out]; exact qM 5 hb_ rfl rfl rfl), Q_B, Q_D0, Q_F0, Q_U0, Q_G0, Q_M0, Q_BP, Q_HG8, Q_N8, Q_NP8, Q_NM8, Q_LO, fun h0_ => aF (hoff 15 kr) h0_, Q_X14_⟩
       refine qL ?_ ?_
       ·rintro b a w' ⟨g8, m14_, ha, Q_B, Q_D0, Q_F0, Q_U0, Q_G0, Q_M0, Q_BP, Q_HG8, Q_N8, Q_NP8, Q_NM8, Q_LO, Q_LS, Q_X14_⟩ hb_ hon hoff
        refine ⟨_, rfl, fun K hK => ?_⟩
        have e34 : a.tmps[34]? = some (.tuple #[.agg #[.int .i64 own.f0, .int .i64 own.f1, .int .i64 own.f2.f0, .int .i64 own.f2.f1, .int .i64 own.f2.f2, .int .i64 own.f2.f3, .int .i64 own.f2.f4, .int .i64 own.f2.f5], .bool can]) := by rw [ha]; exact qO (e := (11, 34, .tuple #[.agg #[.int .i64 own.f0, .int .i64 own.f1, .int .i64 own.f2.f0, .int .i64 own.f2.f1, .int .i64 own.f2.f2, .int .i64 own.f2.f3, .int .i64 own.f2.f4, .int .i64 own.f2.f5], .bool can])) 4 rfl rfl (hon 11 kr) rfl
        replace ha := aM ha
        have B := aM Q_B
        have D0 := aM Q_D0
        have F0 := aM Q_F0
        have U0 := aM Q_U0
        have G0 := aM Q_G0
        have M0 := aM Q_M0
        have BP := aM Q_BP
        refine qw (w1 := w') (v := .bool can) (by rfl) rfl ?_ ?_
        ·go_simp
         (try simp only [i64_w])
         try rfl
        refine hK.out _ _ ⟨g8, m14_, (by rw [ha.out]; exact qM 6 hb_ rfl rfl rfl), Q_B, Q_D0, Q_F0, Q_U0, Q_G0, Q_M0, Q_BP, Q_HG8, Q_N8, Q_NP8, Q_NM8, Q_LO, Q_LS, Q_X14_⟩
       refine qL ?_ ?_
       ·rintro b a w' ⟨g8, m14_, ha, Q_B, Q_D0, Q_F0, Q_U0, Q_G0, Q_M0, Q_BP, Q_HG8, Q_N8, Q_NP8, Q_NM8, Q_LO, Q_LS, Q_X14_⟩ hb_ hon hoff
        refine ⟨_, rfl, fun K hK => ?_⟩
        replace ha := aM ha
        have B := aM Q_B
        have D0 := aM Q_D0
        have F0 := aM Q_F0
        have U0 := aM Q_U0
        have G0 := aM Q_G0
        have M0 := aM Q_M0
        have BP := aM Q_BP
        refine qhB (by rfl) rfl (cs := #[.int .i64 0, .int .i64 0, .int .i64 0, .int .i64 0, .int .i64 0, .int .i64 0, .int .i64 0, .int .i64 0]) (t := 28) ?hr14 ?_
        case hr14 => first | (go_simp; done) | (go_simp; rfl)
        intro g8_ hg8_ w1_ hbox_ hbl_
        refine hK.out _ _ ⟨g8_, (.pointer (some ⟨g8_, 0, none⟩)), (by rw [ha.out]; exact qM 7 hb_ rfl rfl rfl), qy B.out B.out.size hbl_, Kd.qY D0.out hbl_, Kd.qY F0.out hbl_, Kd.qY U0.out hbl_, Kd.qY G0.out hbl_, M0.out.below hbl_, qS BP.out hbl_, fun _ => (by rw [hg8_]; exact B.out.size), fun _ => (by rw [hg8_]; exact Nat.ne_of_lt (Kd.R_lt D0.out _ rfl)), fun _ => (by rw [hg8_]; exact Nat.ne_of_lt (qPB BP.out)), fun _ => (by rw [hg8_]; exact Nat.ne_of_lt M0.out.lt), fun _ _ => hbox_, fun h0_ => aF (hoff 15 kr) h0_, fun _ => rfl⟩
       refine qL ?_ ?_
       ·rintro b a w' ⟨g8, m14_, ha, Q_B, Q_D0, Q_F0, Q_U0, Q_G0, Q_M0, Q_BP, Q_HG8, Q_N8, Q_NP8, Q_NM8, Q_LO, Q_LS, Q_X14_⟩ hb_ hon hoff
        refine ⟨_, rfl, fun K hK => ?_⟩
        have e8 : a.tmps[8]? = some (m14_) := by rw [ha]; exact qO (e := (14, 8, m14_)) 7 rfl rfl (hon 14 kr) rfl
        rw [Q_X14_ (hon 14 kr)] at e8
        have e46 : a.tmps[46]? = some (.agg #[.int .i64 own.f0, .int .i64 own.f1, .int .i64 own.f2.f0, .int .i64 own.f2.f1, .int .i64 own.f2.f2, .int .i64 own.f2.f3, .int .i64 own.f2.f4, .int .i64 own.f2.f5]) := by rw [ha]; exact qO (e := (12, 46, .agg #[.int .i64 own.f0, .int .i64 own.f1, .int .i64 own.f2.f0, .int .i64 own.f2.f1, .int .i64 own.f2.f2, .int .i64 own.f2.f3, .int .i64 own.f2.f4, .int .i64 own.f2.f5])) 5 rfl rfl (hon 12 kr) rfl
        replace ha := aM ha
        have B := aM Q_B
        have D0 := aM Q_D0
        have F0 := aM Q_F0
        have U0 := aM Q_U0
        have G0 := aM Q_G0
        have M0 := aM Q_M0
        have BP := aM Q_BP
        have HG8 := aM (Q_HG8 (hon 14 kr))
        have N8 := aM (Q_N8 (hon 14 kr))
        have NP8 := aM (Q_NP8 (hon 14 kr))
        have NM8 := aM (Q_NM8 (hon 14 kr))
        have LO := aM (Q_LO (hon 14 kr) hb_)
        obtain ⟨w1_, hw1_⟩ : ∃ w1_, ((((((((w'.setCell ⟨g8, 0, none⟩ (.int .i64 own.f0)).setCell ⟨g8, 1, none⟩ (.int .i64 own.f1)).setCell ⟨g8, 2, none⟩ (.int .i64 own.f2.f0)).setCell ⟨g8, 3, none⟩ (.int .i64 own.f2.f1)).setCell ⟨g8, 4, none⟩ (.int .i64 own.f2.f2)).setCell ⟨g8, 5, none⟩ (.int .i64 own.f2.f3)).setCell ⟨g8, 6, none⟩ (.int .i64 own.f2.f4)).setCell ⟨g8, 7, none⟩ (.int .i64 own.f2.f5)) = w1_ := ⟨_, rfl⟩
        have hfar_ := rcFar (own := own) w' g8
        have hnew_ := rcNew (own := own) LO.out
        have hset_ := rcSet (own := own) (w := w') HG8.out B.out
        rw [hw1_] at hfar_ hnew_ hset_
        refine skip_ (w1 := w1_) (by rfl) rfl ?hr15 ?_
        case hr15 => (rw [← hw1_]; exact rcStore (own := own) (.tmp 8) (.tmp 46) g8 rfl (qjA e8) (qjA e46) LO.out)
        refine hK.out _ _ ⟨g8, m14_, (by rw [ha.out]; exact qvA (v := undef) rfl), hset_, rcRow D0.out rfl (by intro e_; have e2_ : g8 = ad.block := (by simpa [Value.ownBlock] using e_); exact N8.out e2_.symm) hfar_, rcRow' F0.out LO.out (by decide) hfar_, rcRow' U0.out LO.out (by decide) hfar_, rcRow' G0.out LO.out (by decide) hfar_, M0.out.qUA (hfar_ gm NM8.out), (hfar_ gp NP8.out).trans BP.out, Q_HG8, Q_N8, Q_NP8, Q_NM8, fun _ h1_ => absurd ((qVA b 15).symm.trans h1_) (by decide), fun _ => hnew_, Q_X14_⟩
       refine qL ?_ ?_
       ·rintro b a w' ⟨g8, m14_, ha, Q_B, Q_D0, Q_F0, Q_U0, Q_G0, Q_M0, Q_BP, Q_HG8, Q_N8, Q_NP8, Q_NM8, Q_LO, Q_LS, Q_X14_⟩ hb_ hon hoff
        refine ⟨_, rfl, fun K hK => ?_⟩
        have e47 : a.tmps[47]? = some (.bool can) := by rw [ha]; exact qO (e := (13, 47, .bool can)) 6 rfl rfl (hon 13 kr) rfl
        replace ha := aM ha
        have B := aM Q_B
        have D0 := aM Q_D0
        have F0 := aM Q_F0
        have U0 := aM Q_U0
        have G0 := aM Q_G0
        have M0 := aM Q_M0
        have BP := aM Q_BP
        have HG8 := aM (Q_HG8 (hon 14 kr))
        have N8 := aM (Q_N8 (hon 14 kr))
        have NP8 := aM (Q_NP8 (hon 14 kr))
        have NM8 := aM (Q_NM8 (hon 14 kr))
        have LS := aM (Q_LS (hon 15 kr))
        refine qw (w1 := w') (v := .bool can) (by rfl) rfl ?_ ?_
        ·go_simp
         (try simp only [i64_w])
         try rfl
        refine hK.out _ _ ⟨g8, m14_, (by rw [ha.out]; exact qM 8 hb_ rfl rfl rfl), Q_B, Q_D0, Q_F0, Q_U0, Q_G0, Q_M0, Q_BP, Q_HG8, Q_N8, Q_NP8, Q_NM8, fun _ h1_ => aT (hon 15 kr) h1_, Q_LS, Q_X14_⟩
       exact qSB
      ·rintro b a w' hall ⟨g8, m14_, ha, Q_B, Q_D0, Q_F0, Q_U0, Q_G0, Q_M0, Q_BP, Q_HG8, Q_N8, Q_NP8, Q_NM8, Q_LO, Q_LS, Q_X14_⟩
       clear B BP D0 F0 G0 M0 U0
       have hb4_ := hall 4 (by kernel_rfl)
       have hb6_ := hall 6 (by kernel_rfl)
       have hb7_ := hall 7 (by kernel_rfl)
       have hb10_ := hall 10 (by kernel_rfl)
       have hb11_ := hall 11 (by kernel_rfl)
       have hb12_ := hall 12 (by kernel_rfl)
       have hb13_ := hall 13 (by kernel_rfl)
       have hb14_ := hall 14 (by kernel_rfl)
       have hb15_ := hall 15 (by kernel_rfl)
       have hb16_ := hall 16 (by kernel_rfl)
       subst ha
       obtain rfl := Q_X14_ hb14_
       simp only [putSel, hb4_, hb6_, hb7_, hb10_, hb11_, hb12_, hb13_, hb14_, hb15_, hb16_, if_true, Act.put, List.setIfInBounds_toArray, List.set_cons_zero, List.set_cons_succ]
       have B := aM Q_B
       clear Q_B
       have D0 := aM Q_D0
       clear Q_D0
       have F0 := aM Q_F0
       clear Q_F0
       have U0 := aM Q_U0
       clear Q_U0
       have G0 := aM Q_G0
       clear Q_G0
       have M0 := aM Q_M0
       clear Q_M0
       have BP := aM Q_BP
       clear Q_BP
       have HG8 := aM (Q_HG8 hb14_)
       clear Q_HG8
       have N8 := aM (Q_N8 hb14_)
       clear Q_N8
       have NP8 := aM (Q_NP8 hb14_)
       clear Q_NP8
       have NM8 := aM (Q_NM8 hb14_)
       clear Q_NM8 Q_LO
       have LS := aM (Q_LS hb15_)
       clear Q_LS hall hb4_ hb6_ hb7_ hb10_ hb11_ hb12_ hb13_ hb14_ hb15_ hb16_
       go_wp2
       clear hix
       refine qxA (n := 11) (S := fun w' => True) (ds := []) #[false, false, false, false, false, false, false, false, false, false, false] (by kernel_rfl) rfl rfl trivial (fun hHeld => ?_); refine qKA rcTab9 rcBits9 (fun HT_ HW_ => ?_)
       refine pS (i := 0) (N := some 49) #[true, false, false, false, false, false, false, false, false, false, false] HT_ ?_
       refine pS (i := 1) (N := some 50) #[true, true, false, false, false, false, false, false, false, false, false] HT_ ?_
       refine pS (i := 2) (N := some 51) #[true, true, true, false, false, false, false, false, false, false, false] HT_ ?_
       refine qTC [3, 4, 5, 6, 7, 8, 9, 10] (fun a0_ b a w' => a = putSel a0_ b [(3, 52, .map (some gm)), (4, 53, .agg #[.int .i64 own.f0, .int .i64 own.f1, .int .i64 own.f2.f0, .int .i64 own.f2.f1, .int .i64 own.f2.f2, .int .i64 own.f2.f3, .int .i64 own.f2.f4, .int .i64 own.f2.f5]), (5, 54, .tuple #[.int .i64 pl, .bool mt]), (6, 48, .tuple #[.int .i64 pl, .bool mt]), (7, 55, .int .i64 pl), (8, 56, .bool mt), (9, 10, .int .i64 pl), (10, 11, .bool mt)] ∧ (Below w.heap.size w w') ∧ (Kd.R k28 28 w' w.heap.size (fun _ => True) (.slice (some ad) n cd) ds) ∧ (Kd.R (Kd.int .i64) 3 w' w.heap.size (fun _ => True) v1 fs) ∧ (Kd.R (Kd.int .u8) 5 w' w.heap.size (fun _ => True) v2 us) ∧ (Kd.R (Kd.int .i64) 3 w' w.heap.size (fun _ => True) (.slice (some a3) n c3) qs) ∧ (mapW.Is w' gm met) ∧ (w'.heap[gp]? = some (.cells #[.slice (some ad) n cd, v1, v2, .slice (some a3) n c3, .map (some gm)] 52 (0, 0))) ∧ (w'.heap[g8]? = some (.cells #[.int .i64 own.f0, .int .i64 own.f1, .int .i64 own.f2.f0, .int .i64 own.f2.f1, .int .i64 own.f2.f2, .int .i64 own.f2.f3, .int .i64 own.f2.f4, .int .i64 own.f2.f5] 28 (0, 0)))) HT_.out HW_.out (by kernel_rfl) (by kernel_rfl) ?_ ?_ ?_
       ·exact ⟨by simp only [putSel, Bool.false_eq_true, if_false], qm B.out, Kd.qc D0.out, Kd.qc F0.out, Kd.qc U0.out, Kd.qc G0.out, M0.out.drew, qE BP.out, qE LS.out⟩
       ·skip
        clear B BP D0 F0 G0 LS M0 U0
        refine qL ?_ ?_
        ·rintro b a w' ⟨ha, Q_B, Q_D0, Q_F0, Q_U0, Q_G0, Q_M0, Q_BP, Q_LS⟩ hb_ hon hoff
         refine ⟨_, rfl, fun K hK => ?_⟩
         have e51 : a.tmps[51]? = some (.pointer (some ⟨gp, 4, none⟩)) := by rw [ha]; exact (qi rfl).trans rfl
         replace ha := aM ha
         have B := aM Q_B
         have D0 := aM Q_D0
         have F0 := aM Q_F0
         have U0 := aM Q_U0
         have G0 := aM Q_G0
         have M0 := aM Q_M0
         have BP := aM Q_BP
         have LS := aM Q_LS
         have hc_ : w'.cell? ⟨gp, 4, none⟩ = some (.map (some gm)) := (qD BP.out 4).trans rfl
         refine qw (w1 := w') (v := .map (some gm)) (by rfl) rfl ?_ ?_
         ·go_simp
          (try simp only [i64_w])
          try rfl
         refine hK.out _ _ ⟨(by rw [ha.out]; exact qM 0 hb_ rfl rfl rfl), Q_B, Q_D0, Q_F0, Q_U0, Q_G0, Q_M0, Q_BP, Q_LS⟩
        refine qL ?_ ?_
        ·rintro b a w' ⟨ha, Q_B, Q_D0, Q_F0, Q_U0, Q_G0, Q_M0, Q_BP, Q_LS⟩ hb_ hon hoff
         refine ⟨_, rfl, fun K hK => ?_⟩
         have e8 : a.tmps[8]? = some (.pointer (some ⟨g8, 0, none⟩)) := by rw [ha]; exact (qi rfl).trans rfl
         replace ha := aM ha
         have B := aM Q_B
         have D0 := aM Q_D0
         have F0 := aM Q_F0
         have U0 := aM Q_U0
         have G0 := aM Q_G0
         have M0 := aM Q_M0
         have BP := aM Q_BP
         have LS := aM Q_LS
         have hc0_ : w'.cell? ⟨g8, 0, none⟩ = some (.int .i64 own.f0) := (qD LS.out 0).trans rfl
         have hc1_ : w'.cell? ⟨g8, 1, none⟩ = some (.int .i64 own.f1) := (qD LS.out 1).trans rfl
         have hc2_ : w'.cell? ⟨g8, 2, none⟩ = some (.int .i64 own.f2.f0) := (qD LS.out 2).trans rfl
         have hc3_ : w'.cell? ⟨g8, 3, none⟩ = some (.int .i64 own.f2.f1) := (qD LS.out 3).trans rfl
         have hc4_ : w'.cell? ⟨g8, 4, none⟩ = some (.int .i64 own.f2.f2) := (qD LS.out 4).trans rfl
         have hc5_ : w'.cell? ⟨g8, 5, none⟩ = some (.int .i64 own.f2.f3) := (qD LS.out 5).trans rfl
         have hc6_ : w'.cell? ⟨g8, 6, none⟩ = some (.int .i64 own.f2.f4) := (qD LS.out 6).trans rfl
         have hc7_ : w'.cell? ⟨g8, 7, none⟩ = some (.int .i64 own.f2.f5) := (qD LS.out 7).trans rfl
         refine qw (w1 := w') (v := .agg #[.int .i64 own.f0, .int .i64 own.f1, .int .i64 own.f2.f0, .int .i64 own.f2.f1, .int .i64 own.f2.f2, .int .i64 own.f2.f3, .int .i64 own.f2.f4, .int .i64 own.f2.f5]) (by rfl) rfl ?_ ?_
         ·go_simp
          (try simp only [i64_w])
          try rfl
         refine hK.out _ _ ⟨(by rw [ha.out]; exact qM 1 hb_ rfl rfl rfl), Q_B, Q_D0, Q_F0, Q_U0, Q_G0, Q_M0, Q_BP, Q_LS⟩
        refine qL ?_ ?_
        ·rintro b a w' ⟨ha, Q_B, Q_D0, Q_F0, Q_U0, Q_G0, Q_M0, Q_BP, Q_LS⟩ hb_ hon hoff
         refine ⟨_, rfl, fun K hK => ?_⟩
         have e52 : a.tmps[52]? = some (.map (some gm)) := by rw [ha]; exact qO (e := (3, 52, .map (some gm))) 0 rfl rfl (hon 3 kr) rfl
         have e53 : a.tmps[53]? = some (.agg #[.int .i64 own.f0, .int .i64 own.f1, .int .i64 own.f2.f0, .int .i64 own.f2.f1, .int .i64 own.f2.f2, .int .i64 own.f2.f3, .int .i64 own.f2.f4, .int .i64 own.f2.f5]) := by rw [ha]; exact qO (e := (4, 53, .agg #[.int .i64 own.f0, .int .i64 own.f1, .int .i64 own.f2.f0, .int .i64 own.f2.f1, .int .i64 own.f2.f2, .int .i64 own.f2.f3, .int .i64 own.f2.f4, .int .i64 own.f2.f5])) 1 rfl rfl (hon 4 kr) rfl
         replace ha := aM ha
         have B := aM Q_B
         have D0 := aM Q_D0
         have F0 := aM Q_F0
         have U0 := aM Q_U0
         have G0 := aM Q_G0
         have M0 := aM Q_M0
         have BP := aM Q_BP
         have LS := aM Q_LS
         have hl_ := HLOOK.out w' M0.out
         refine qw (w1 := w') (v := .tuple #[.int .i64 pl, .bool mt]) (by rfl) rfl ?_ ?_
         ·go_simp
          (try simp only [i64_w])
          try rfl
         refine hK.out _ _ ⟨(by rw [ha.out]; exact qM 2 hb_ rfl rfl rfl), Q_B, Q_D0, Q_F0, Q_U0, Q_G0, Q_M0, Q_BP, Q_LS⟩
        refine qL ?_ ?_
        ·rintro b a w' ⟨ha, Q_B, Q_D0, Q_F0, Q_U0, Q_G0, Q_M0, Q_BP, Q_LS⟩ hb_ hon hoff
         refine ⟨_, rfl, fun K hK => ?_⟩
         have e54 : a.tmps[54]? = some (.tuple #[.int .i64 pl, .bool mt]) := by rw [ha]; exact qO (e := (5, 54, .tuple #[.int .i64 pl, .bool mt])) 2 rfl rfl (hon 5 kr) rfl
         replace ha := aM ha
         have B := aM Q_B
         have D0 := aM Q_D0
         have F0 := aM Q_F0
         have U0 := aM Q_U0
         have G0 := aM Q_G0
         have M0 := aM Q_M0
         have BP := aM Q_BP
         have LS := aM Q_LS
         refine qw (w1 := w') (v := .tuple #[.int .i64 pl, .bool mt]) (by rfl) rfl ?_ ?_
         ·go_simp
          (try simp only [i64_w])
          try rfl
         refine hK.out _ _ ⟨(by rw [ha.out]; exact qM 3 hb_ rfl rfl rfl), Q_B, Q_D0, Q_F0, Q_U0, Q_G0, Q_M0, Q_BP, Q_LS⟩
        refine qL ?_ ?_
        ·rintro b a w' ⟨ha, Q_B, Q_D0, Q_F0, Q_U0, Q_G0, Q_M0, Q_BP, Q_LS⟩ hb_ hon hoff
         refine ⟨_, rfl, fun K hK => ?_⟩
         have e48 : a.tmps[48]? = some (.tuple #[.int .i64 pl, .bool mt]) := by rw [ha]; exact qO (e := (6, 48, .tuple #[.int .i64 pl, .bool mt])) 3 rfl rfl (hon 6 kr) rfl
         replace ha := aM ha
         have B := aM Q_B
         have D0 := aM Q_D0
         have F0 := aM Q_F0
         have U0 := aM Q_U0
         have G0 := aM Q_G0
         have M0 := aM Q_M0
         have BP := aM Q_BP
         have LS := aM Q_LS
         refine qw (w1 := w') (v := .int .i64 pl) (by rfl) rfl ?_ ?_
         ·go_simp
          (try simp only [i64_w])
          try rfl
         refine hK.out _ _ ⟨(by rw [ha.out]; exact qM 4 hb_ rfl rfl rfl), Q_B, Q_D0, Q_F0, Q_U0, Q_G0, Q_M0, Q_BP, Q_LS⟩
        refine qL ?_ ?_
        ·rintro b a w' ⟨ha, Q_B, Q_D0, Q_F0, Q_U0, Q_G0, Q_M0, Q_BP, Q_LS⟩ hb_ hon hoff
         refine ⟨_, rfl, fun K hK => ?_⟩
         have e48 : a.tmps[48]? = some (.tuple #[.int .i64 pl, .bool mt]) := by rw [ha]; exact qO (e := (6, 48, .tuple #[.int .i64 pl, .bool mt])) 3 rfl rfl (hon 6 kr) rfl
         replace ha := aM ha
         have B := aM Q_B
         have D0 := aM Q_D0
         have F0 := aM Q_F0
         have U0 := aM Q_U0
         have G0 := aM Q_G0
         have M0 := aM Q_M0
         have BP := aM Q_BP
         have LS := aM Q_LS
         refine qw (w1 := w') (v := .bool mt) (by rfl) rfl ?_ ?_
         ·go_simp
          (try simp only [i64_w])
          try rfl
         refine hK.out _ _ ⟨(by rw [ha.out]; exact qM 5 hb_ rfl rfl rfl), Q_B, Q_D0, Q_F0, Q_U0, Q_G0, Q_M0, Q_BP, Q_LS⟩
        refine qL ?_ ?_
        ·rintro b a w' ⟨ha, Q_B, Q_D0, Q_F0, Q_U0, Q_G0, Q_M0, Q_BP, Q_LS⟩ hb_ hon hoff
         refine ⟨_, rfl, fun K hK => ?_⟩
         have e55 : a.tmps[55]? = some (.int .i64 pl) := by rw [ha]; exact qO (e := (7, 55, .int .i64 pl)) 4 rfl rfl (hon 7 kr) rfl
         replace ha := aM ha
         have B := aM Q_B
         have D0 := aM Q_D0
         have F0 := aM Q_F0
         have U0 := aM Q_U0
         have G0 := aM Q_G0
         have M0 := aM Q_M0
         have BP := aM Q_BP
         have LS := aM Q_LS
         refine qw (w1 := w') (v := .int .i64 pl) (by rfl) rfl ?_ ?_
         ·go_simp
          (try simp only [i64_w])
          try rfl
         refine hK.out _ _ ⟨(by rw [ha.out]; exact qM 6 hb_ rfl rfl rfl), Q_B, Q_D0, Q_F0, Q_U0, Q_G0, Q_M0, Q_BP, Q_LS⟩
        refine qL ?_ ?_
        ·rintro b a w' ⟨ha, Q_B, Q_D0, Q_F0, Q_U0, Q_G0, Q_M0, Q_BP, Q_LS⟩ hb_ hon hoff
         refine ⟨_, rfl, fun K hK => ?_⟩
         have e56 : a.tmps[56]? = some (.bool mt) := by rw [ha]; exact qO (e := (8, 56, .bool mt)) 5 rfl rfl (hon 8 kr) rfl
         replace ha := aM ha
         have B := aM Q_B
         have D0 := aM Q_D0
         have F0 := aM Q_F0
         have U0 := aM Q_U0
         have G0 := aM Q_G0
         have M0 := aM Q_M0
         have BP := aM Q_BP
         have LS := aM Q_LS
         refine qw (w1 := w') (v := .bool mt) (by rfl) rfl ?_ ?_
         ·go_simp
          (try simp only [i64_w])
          try rfl
         refine hK.out _ _ ⟨(by rw [ha.out]; exact qM 7 hb_ rfl rfl rfl), Q_B, Q_D0, Q_F0, Q_U0, Q_G0, Q_M0, Q_BP, Q_LS⟩
        exact qSB
       ·rintro b a w' hall ⟨ha, Q_B, Q_D0, Q_F0, Q_U0, Q_G0, Q_M0, Q_BP, Q_LS⟩
        clear B BP D0 F0 G0 LS M0 U0
        have hb3_ := hall 3 (by kernel_rfl)
        have hb4_ := hall 4 (by kernel_rfl)
        have hb5_ := hall 5 (by kernel_rfl)
        have hb6_ := hall 6 (by kernel_rfl)
        have hb7_ := hall 7 (by kernel_rfl)
        have hb8_ := hall 8 (by kernel_rfl)
        have hb9_ := hall 9 (by kernel_rfl)
        have hb10_ := hall 10 (by kernel_rfl)
        subst ha
        simp only [putSel, hb3_, hb4_, hb5_, hb6_, hb7_, hb8_, hb9_, hb10_, if_true, Act.put, List.setIfInBounds_toArray, List.set_cons_zero, List.set_cons_succ]
        have B := aM Q_B
        clear Q_B
        have D0 := aM Q_D0
        clear Q_D0
        have F0 := aM Q_F0
        clear Q_F0
        have U0 := aM Q_U0
        clear Q_U0
        have G0 := aM Q_G0
        clear Q_G0
        have M0 := aM Q_M0
        clear Q_M0
        have BP := aM Q_BP
        clear Q_BP
        have LS := aM Q_LS
        clear Q_LS hall hb3_ hb4_ hb5_ hb6_ hb7_ hb8_ hb9_ hb10_
        cases can with
        | false =>
         have hr := HRO.out
         rw [if_neg (by decide)] at hr
         have HR := aM hr
         clear hr
         go_wp2
         go_roundg (4 - (d + 1))
         case measure => have := HD.out; omega
         case rel => exact ⟨L2, d + 1, _, _, _, _, by push_cast; rfl, by omega, ⟨by have := HD.out; omega⟩, ⟨HN.out.none HD.out HR.out⟩, by rw [HEQ.out.1]; exact D0, by rw [HEQ.out.2.1]; exact F0, by rw [HEQ.out.2.2.1]; exact U0, by rw [HEQ.out.2.2.2.1]; exact G0, BP, by rw [HEQ.out.2.2.2.2.1]; exact M0, NFG, B⟩
        | true =>
         have hr := HRO.out
         rw [if_pos rfl] at hr
         have HR := aM hr
         clear hr
         cases mt with
         | true =>
          have HM := aM (of_decide_eq_true HMT.out.symm)
          go_wp2
          go_roundg (4 - (d + 1))
          case measure => have := HD.out; omega
          case rel => exact ⟨L2, d + 1, _, _, _, _, by push_cast; rfl, by omega, ⟨by have := HD.out; omega⟩, ⟨HN.out.met HD.out HR.out (by rw [show L2.map Prod.fst = ds from HEQ.out.1]; exact HM.out)⟩, by rw [HEQ.out.1]; exact D0, by rw [HEQ.out.2.1]; exact F0, by rw [HEQ.out.2.2.1]; exact U0, by rw [HEQ.out.2.2.2.1]; exact G0, BP, by rw [HEQ.out.2.2.2.2.1]; exact M0, NFG, B⟩
         | false =>
          have HM := aM (of_decide_eq_false HMT.out.symm)
          go_wp2
          refine qxA (n := 11) (S := fun w' => True) (ds := []) #[false, false, false, false, false, false, false, false, false, false, false] (by kernel_rfl) rfl rfl trivial (fun hHeld => ?_); refine qKA rcTab11 rcBits11 (fun HT_ HW_ => ?_)
          refine pS (i := 0) (N := some 62) #[true, false, false, false, false, false, false, false, false, false, false] HT_ ?_
          refine pS (i := 1) (N := some 63) #[true, true, false, false, false, false, false, false, false, false, false] HT_ ?_
          refine pS (i := 2) (N := some 64) #[true, true, true, false, false, false, false, false, false, false, false] HT_ ?_
          refine pS (i := 5) (N := some 67) #[true, true, true, false, false, true, false, false, false, false, false] HT_ ?_
          refine pS (i := 6) (N := some 68) #[true, true, true, false, false, true, true, false, false, false, false] HT_ ?_
          refine pS (i := 7) (N := some 69) #[true, true, true, false, false, true, true, true, false, false, false] HT_ ?_
          refine qTC [3, 4, 8, 9, 10] (fun a0_ b a w' => a = putSel a0_ b [(3, 65, .map (some gm)), (4, 66, .agg #[.int .i64 own.f0, .int .i64 own.f1, .int .i64 own.f2.f0, .int .i64 own.f2.f1, .int .i64 own.f2.f2, .int .i64 own.f2.f3, .int .i64 own.f2.f4, .int .i64 own.f2.f5]), (8, 70, .slice (some ad) n cd), (9, 71, .int .i64 (n : Int))] ∧ (Below w.heap.size w w') ∧ (Kd.R k28 28 w' w.heap.size (fun _ => True) (.slice (some ad) n cd) ds) ∧ (Kd.R (Kd.int .i64) 3 w' w.heap.size (fun _ => True) v1 fs) ∧ (Kd.R (Kd.int .u8) 5 w' w.heap.size (fun _ => True) v2 us) ∧ (Kd.R (Kd.int .i64) 3 w' w.heap.size (fun _ => True) (.slice (some a3) n c3) qs) ∧ (b 10 = false → mapW.Is w' gm met) ∧ (b 10 = true → mapW.Is w' gm ((own, (n : Int)) :: met)) ∧ (w'.heap[gp]? = some (.cells #[.slice (some ad) n cd, v1, v2, .slice (some a3) n c3, .map (some gm)] 52 (0, 0))) ∧ (w'.heap[g8]? = some (.cells #[.int .i64 own.f0, .int .i64 own.f1, .int .i64 own.f2.f0, .int .i64 own.f2.f1, .int .i64 own.f2.f2, .int .i64 own.f2.f3, .int .i64 own.f2.f4, .int .i64 own.f2.f5] 28 (0, 0)))) HT_.out HW_.out (by kernel_rfl) (by kernel_rfl) ?_ ?_ ?_
          ·exact ⟨by simp only [putSel, Bool.false_eq_true, if_false], qm B.out, Kd.qc D0.out, Kd.qc F0.out, Kd.qc U0.out, Kd.qc G0.out, fun _ => M0.out.drew, fun h_ => absurd h_ (by decide), qE BP.out, qE LS.out⟩
          ·skip
           clear B BP D0 F0 G0 LS M0 U0
           refine qL ?_ ?_
           ·rintro b a w' ⟨ha, Q_B, Q_D0, Q_F0, Q_U0, Q_G0, Q_M0, Q_M1, Q_BP, Q_LS⟩ hb_ hon hoff
            refine ⟨_, rfl, fun K hK => ?_⟩
            have e64 : a.tmps[64]? = some (.pointer (some ⟨gp, 4, none⟩)) := by rw [ha]; exact (qi rfl).trans rfl
            replace ha := aM ha
            have B := aM Q_B
            have D0 := aM Q_D0
            have F0 := aM Q_F0
            have U0 := aM Q_U0
            have G0 := aM Q_G0
            have M0 := aM (Q_M0 (hoff 10 kr))
            have BP := aM Q_BP
            have LS := aM Q_LS
            have hc_ : w'.cell? ⟨gp, 4, none⟩ = some (.map (some gm)) := (qD BP.out 4).trans rfl
            refine qw (w1 := w') (v := .map (some gm)) (by rfl) rfl ?_ ?_
            ·go_simp
             (try simp only [i64_w])
             try rfl
            refine hK.out _ _ ⟨(by rw [ha.out]; exact qM 0 hb_ rfl rfl rfl), Q_B, Q_D0, Q_F0, Q_U0, Q_G0, Q_M0, fun h0_ => aF (hoff 10 kr) h0_, Q_BP, Q_LS⟩
           refine qL ?_ ?_
           ·rintro b a w' ⟨ha, Q_B, Q_D0, Q_F0, Q_U0, Q_G0, Q_M0, Q_M1, Q_BP, Q_LS⟩ hb_ hon hoff
            refine ⟨_, rfl, fun K hK => ?_⟩
            have e8 : a.tmps[8]? = some (.pointer (some ⟨g8, 0, none⟩)) := by rw [ha]; exact (qi rfl).trans rfl
            replace ha := aM ha
            have B := aM Q_B
            have D0 := aM Q_D0
            have F0 := aM Q_F0
            have U0 := aM Q_U0
            have G0 := aM Q_G0
            have M0 := aM (Q_M0 (hoff 10 kr))
            have BP := aM Q_BP
            have LS := aM Q_LS
            have hc0_ : w'.cell? ⟨g8, 0, none⟩ = some (.int .i64 own.f0) := (qD LS.out 0).trans rfl
            have hc1_ : w'.cell? ⟨g8, 1, none⟩ = some (.int .i64 own.f1) := (qD LS.out 1).trans rfl
            have hc2_ : w'.cell? ⟨g8, 2, none⟩ = some (.int .i64 own.f2.f0) := (qD LS.out 2).trans rfl
            have hc3_ : w'.cell? ⟨g8, 3, none⟩ = some (.int .i64 own.f2.f1) := (qD LS.out 3).trans rfl
            have hc4_ : w'.cell? ⟨g8, 4, none⟩ = some (.int .i64 own.f2.f2) := (qD LS.out 4).trans rfl
            have hc5_ : w'.cell? ⟨g8, 5, none⟩ = some (.int .i64 own.f2.f3) := (qD LS.out 5).trans rfl
            have hc6_ : w'.cell? ⟨g8, 6, none⟩ = some (.int .i64 own.f2.f4) := (qD LS.out 6).trans rfl
            have hc7_ : w'.cell? ⟨g8, 7, none⟩ = some (.int .i64 own.f2.f5) := (qD LS.out 7).trans rfl
            refine qw (w1 := w') (v := .agg #[.int .i64 own.f0, .int .i64 own.f1, .int .i64 own.f2.f0, .int .i64 own.f2.f1, .int .i64 own.f2.f2, .int .i64 own.f2.f3, .int .i64 own.f2.f4, .int .i64 own.f2.f5]) (by rfl) rfl ?_ ?_
            ·go_simp
             (try simp only [i64_w])
             try rfl
            refine hK.out _ _ ⟨(by rw [ha.out]; exact qM 1 hb_ rfl rfl rfl), Q_B, Q_D0, Q_F0, Q_U0, Q_G0, Q_M0, fun h0_ => aF (hoff 10 kr) h0_, Q_BP, Q_LS⟩
           refine qL ?_ ?_
           ·rintro b a w' ⟨ha, Q_B, Q_D0, Q_F0, Q_U0, Q_G0, Q_M0, Q_M1, Q_BP, Q_LS⟩ hb_ hon hoff
            refine ⟨_, rfl, fun K hK => ?_⟩
            have e69 : a.tmps[69]? = some (.pointer (some ⟨gp, 0, none⟩)) := by rw [ha]; exact (qi rfl).trans rfl
            replace ha := aM ha
            have B := aM Q_B
            have D0 := aM Q_D0
            have F0 := aM Q_F0
            have U0 := aM Q_U0
            have G0 := aM Q_G0
            have M0 := aM (Q_M0 (hoff 10 kr))
            have BP := aM Q_BP
            have LS := aM Q_LS
            have hc_ : w'.cell? ⟨gp, 0, none⟩ = some (.slice (some ad) n cd) := (qD BP.out 0).trans rfl
            refine qw (w1 := w') (v := .slice (some ad) n cd) (by rfl) rfl ?_ ?_
            ·go_simp
             (try simp only [i64_w])
             try rfl
            refine hK.out _ _ ⟨(by rw [ha.out]; exact qM 2 hb_ rfl rfl rfl), Q_B, Q_D0, Q_F0, Q_U0, Q_G0, Q_M0, fun h0_ => aF (hoff 10 kr) h0_, Q_BP, Q_LS⟩
           refine qL ?_ ?_
           ·rintro b a w' ⟨ha, Q_B, Q_D0, Q_F0, Q_U0, Q_G0, Q_M0, Q_M1, Q_BP, Q_LS⟩ hb_ hon hoff
            refine ⟨_, rfl, fun K hK => ?_⟩
            have e70 : a.tmps[70]? = some (.slice (some ad) n cd) := by rw [ha]; exact qO (e := (8, 70, .slice (some ad) n cd)) 2 rfl rfl (hon 8 kr) rfl
            replace ha := aM ha
            have B := aM Q_B
            have D0 := aM Q_D0
            have F0 := aM Q_F0
            have U0 := aM Q_U0
            have G0 := aM Q_G0
            have M0 := aM (Q_M0 (hoff 10 kr))
            have BP := aM Q_BP
            have LS := aM Q_LS
            refine qw (w1 := w') (v := .int .i64 (n : Int)) (by rfl) rfl ?_ ?_
            ·go_simp
             (try simp only [i64_w])
             try rfl
            refine hK.out _ _ ⟨(by rw [ha.out]; exact qM 3 hb_ rfl rfl rfl), Q_B, Q_D0, Q_F0, Q_U0, Q_G0, Q_M0, fun h0_ => aF (hoff 10 kr) h0_, Q_BP, Q_LS⟩
           refine qL ?_ ?_
           ·rintro b a w' ⟨ha, Q_B, Q_D0, Q_F0, Q_U0, Q_G0, Q_M0, Q_M1, Q_BP, Q_LS⟩ hb_ hon hoff
            refine ⟨_, rfl, fun K hK => ?_⟩
            have e65 : a.tmps[65]? = some (.map (some gm)) := by rw [ha]; exact qO (e := (3, 65, .map (some gm))) 0 rfl rfl (hon 3 kr) rfl
            have e66 : a.tmps[66]? = some (.agg #[.int .i64 own.f0, .int .i64 own.f1, .int .i64 own.f2.f0, .int .i64 own.f2.f1, .int .i64 own.f2.f2, .int .i64 own.f2.f3, .int .i64 own.f2.f4, .int .i64 own.f2.f5]) := by rw [ha]; exact qO (e := (4, 66, .agg #[.int .i64 own.f0, .int .i64 own.f1, .int .i64 own.f2.f0, .int .i64 own.f2.f1, .int .i64 own.f2.f2, .int .i64 own.f2.f3, .int .i64 own.f2.f4, .int .i64 own.f2.f5])) 1 rfl rfl (hon 4 kr) rfl
            have e71 : a.tmps[71]? = some (.int .i64 (n : Int)) := by rw [ha]; exact qO (e := (9, 71, .int .i64 (n : Int))) 3 rfl rfl (hon 9 kr) rfl
            replace ha := aM ha
            have B := aM Q_B
            have D0 := aM Q_D0
            have F0 := aM Q_F0
            have U0 := aM Q_U0
            have G0 := aM Q_G0
            have M0 := aM (Q_M0 hb_)
            have BP := aM Q_BP
            have LS := aM Q_LS
            obtain ⟨w1_, hrun_, hM1_, hgr_⟩ := M0.out.run_put HML.out HWO.out (v := (n : Int)) HWN.out
            have hrun2_ : (Instr.mapUpdate 50 (.map (some gm)) (.agg #[.int .i64 own.f0, .int .i64 own.f1, .int .i64 own.f2.f0, .int .i64 own.f2.f1, .int .i64 own.f2.f2, .int .i64 own.f2.f3, .int .i64 own.f2.f4, .int .i64 own.f2.f5]) (.int .i64 (n : Int))).run Tryd.prog w' = .ok () w1_ := hrun_
            refine skip_ (w1 := w1_) (by rfl) rfl ?hr10 ?_
            case hr10 =>
             have a1_ := qjA e65
             have a2_ := qjA e66
             have a3_ := qjA e71
             unfold execOp
             simp [a1_, a2_, a3_, hrun2_, Result.andThen]
            refine hK.out _ _ ⟨(by rw [ha.out]; exact qvA (v := undef) rfl), B.out.grown hgr_ B.out.size (fun k_ e_ => by cases e_; exact HGM.out), M0.out.row D0.out hgr_, M0.out.row F0.out hgr_, M0.out.row U0.out hgr_, M0.out.row G0.out hgr_, fun h0_ => absurd ((qVA b 10).symm.trans h0_) (by decide), fun _ => hM1_, qh BP.out hgr_ (fun e_ => HNE.out (by injection e_ with e_; exact e_.symm)), qh LS.out hgr_ (fun e_ => M0.out.off LS.out (by injection e_))⟩
           exact qSB
          ·rintro b a w' hall ⟨ha, Q_B, Q_D0, Q_F0, Q_U0, Q_G0, Q_M0, Q_M1, Q_BP, Q_LS⟩
           clear B BP D0 F0 G0 LS M0 U0
           have hb3_ := hall 3 (by kernel_rfl)
           have hb4_ := hall 4 (by kernel_rfl)
           have hb8_ := hall 8 (by kernel_rfl)
           have hb9_ := hall 9 (by kernel_rfl)
           have hb10_ := hall 10 (by kernel_rfl)
           subst ha
           simp only [putSel, hb3_, hb4_, hb8_, hb9_, hb10_, if_true, Act.put, List.setIfInBounds_toArray, List.set_cons_zero, List.set_cons_succ]
           have B := aM Q_B
           clear Q_B
           have D0 := aM Q_D0
           clear Q_D0
           have F0 := aM Q_F0
           clear Q_F0
           have U0 := aM Q_U0
           clear Q_U0
           have G0 := aM Q_G0
           clear Q_G0 Q_M0
           have M1 := aM (Q_M1 hb10_)
           clear Q_M1
           have BP := aM Q_BP
           clear Q_BP
           have LS := aM Q_LS
           clear Q_LS hall hb3_ hb4_ hb8_ hb9_ hb10_
           obtain ⟨met1, hmet1⟩ : ∃ met1, (own, (n : Int)) :: met = met1 := ⟨_, rfl⟩
           rw [hmet1] at M1
           have HM1 := aM hmet1
           clear hmet1
           have hix := rcIx ⟨#[110, 101, 115, 119]⟩ d sg (by rw [(rcSign d HD.out).1]; exact HSG.out)
           go_wp2
           have P0 := BP
           clear BP
           refine qxA (n := 52) (S := fun w' => True) (ds := []) #[false, false, false, false, false, false, false, false, false, false, false, false, false, false, false, false, false, false, false, false, false, false, false, false, false, false, false, false, false, false, false, false, false, false, false, false, false, false, false, false, false, false, false, false, false, false, false, false, false, false, false, false] (by kernel_rfl) rfl rfl trivial (fun hHeld => ?_); refine qKA rcTab12 rcBits12 (fun HT_ HW_ => ?_)
           refine pS (i := 0) (N := some 72) #[true, false, false, false, false, false, false, false, false, false, false, false, false, false, false, false, false, false, false, false, false, false, false, false, false, false, false, false, false, false, false, false, false, false, false, false, false, false, false, false, false, false, false, false, false, false, false, false, false, false, false, false] HT_ ?_
           refine pS (i := 1) (N := some 73) #[true, true, false, false, false, false, false, false, false, false, false, false, false, false, false, false, false, false, false, false, false, false, false, false, false, false, false, false, false, false, false, false, false, false, false, false, false, false, false, false, false, false, false, false, false, false, false, false, false, false, false, false] HT_ ?_
           refine pS (i := 2) (N := some 74) #[true, true, true, false, false, false, false, false, false, false, false, false, false, false, false, false, false, false, false, false, false, false, false, false, false, false, false, false, false, false, false, false, false, false, false, false, false, false, false, false, false, false, false, false, false, false, false, false, false, false, false, false] HT_ ?_
           refine pS (i := 3) (N := some 75) #[true, true, true, true, false, false, false, false, false, false, false, false, false, false, false, false, false, false, false, false, false, false, false, false, false, false, false, false, false, false, false, false, false, false, false, false, false, false, false, false, false, false, false, false, false, false, false, false, false, false, false, false] HT_ ?_
           refine pS (i := 4) (N := some 76) #[true, true, true, true, true, false, false, false, false, false, false, false, false, false, false, false, false, false, false, false, false, false, false, false, false, false, false, false, false, false, false, false, false, false, false, false, false, false, false, false, false, false, false, false, false, false, false, false, false, false, false, false] HT_ ?_
           refine pS (i := 5) (N := some 77) #[true, true, true, true, true, true, false, false, false, false, false, false, false, false, false, false, false, false, false, false, false, false, false, false, false, false, false, false, false, false, false, false, false, false, false, false, false, false, false, false, false, false, false, false, false, false, false, false, false, false, false, false] HT_ ?_
           refine pS (i := 6) (N := some 78) #[true, true, true, true, true, true, true, false, false, false, false, false, false, false, false, false, false, false, false, false, false, false, false, false, false, false, false, false, false, false, false, false, false, false, false, false, false, false, false, false, false, false, false, false, false, false, false, false, false, false, false, false] HT_ ?_
           refine pS (i := 11) (N := some 83) #[true, true, true, true, true, true, true, false, false, false, false, true, false, false, false, false, false, false, false, false, false, false, false, false, false, false, false, false, false, false, false, false, false, false, false, false, false, false, false, false, false, false, false, false, false, false, false, false, false, false, false, false] HT_ ?_
           refine pS (i := 12) (N := some 84) #[true, true, true, true, true, true, true, false, false, false, false, true, true, false, false, false, false, false, false, false, false, false, false, false, false, false, false, false, false, false, false, false, false, false, false, false, false, false, false, false, false, false, false, false, false, false, false, false, false, false, false, false] HT_ ?_
           refine pS (i := 13) (N := some 85) #[true, true, true, true, true, true, true, false, false, false, false, true, true, true, false, false, false, false, false, false, false, false, false, false, false, false, false, false, false, false, false, false, false, false, false, false, false, false, false, false, false, false, false, false, false, false, false, false, false, false, false, false] HT_ ?_
           refine pS (i := 15) (N := some 87) #[true, true, true, true, true, true, true, false, false, false, false, true, true, true, false, true, false, false, false, false, false, false, false, false, false, false, false, false, false, false, false, false, false, false, false, false, false, false, false, false, false, false, false, false, false, false, false, false, false, false, false, false] HT_ ?_
           refine pS (i := 18) (N := some 90) #[true, true, true, true, true, true, true, false, false, false, false, true, true, true, false, true, false, false, true, false, false, false, false, false, false, false, false, false, false, false, false, false, false, false, false, false, false, false, false, false, false, false, false, false, false, false, false, false, false, false, false, false] HT_ ?_
           refine pS (i := 19) (N := some 91) #[true, true, true, true, true, true, true, false, false, false, false, true, true, true, false, true, false, false, true, true, false, false, false, false, false, false, false, false, false, false, false, false, false, false, false, false, false, false, false, false, false, false, false, false, false, false, false, false, false, false, false, false] HT_ ?_
           refine pS (i := 20) (N := some 92) #[true, true, true, true, true, true, true, false, false, false, false, true, true, true, false, true, false, false, true, true, true, false, false, false, false, false, false, false, false, false, false, false, false, false, false, false, false, false, false, false, false, false, false, false, false, false, false, false, false, false, false, false] HT_ ?_
           refine pS (i := 22) (N := some 94) #[true, true, true, true, true, true, true, false, false, false, false, true, true, true, false, true, false, false, true, true, true, false, true, false, false, false, false, false, false, false, false, false, false, false, false, false, false, false, false, false, false, false, false, false, false, false, false, false, false, false, false, false] HT_ ?_
           refine pS (i := 23) (N := some 95) #[true, true, true, true, true, true, true, false, false, false, false, true, true, true, false, true, false, false, true, true, true, false, true, true, false, false, false, false, false, false, false, false, false, false, false, false, false, false, false, false, false, false, false, false, false, false, false, false, false, false, false, false] HT_ ?_
           refine pS (i := 26) (N := some 98) #[true, true, true, true, true, true, true, false, false, false, false, true, true, true, false, true, false, false, true, true, true, false, true, true, false, false, true, false, false, false, false, false, false, false, false, false, false, false, false, false, false, false, false, false, false, false, false, false, false, false, false, false] HT_ ?_
           refine pS (i := 27) (N := some 99) #[true, true, true, true, true, true, true, false, false, false, false, true, true, true, false, true, false, false, true, true, true, false, true, true, false, false, true, true, false, false, false, false, false, false, false, false, false, false, false, false, false, false, false, false, false, false, false, false, false, false, false, false] HT_ ?_
           refine pS (i := 28) (N := some 100) #[true, true, true, true, true, true, true, false, false, false, false, true, true, true, false, true, false, false, true, true, true, false, true, true, false, false, true, true, true, false, false, false, false, false, false, false, false, false, false, false, false, false, false, false, false, false, false, false, false, false, false, false] HT_ ?_
           refine pS (i := 30) (N := some 102) #[true, true, true, true, true, true, true, false, false, false, false, true, true, true, false, true, false, false, true, true, true, false, true, true, false, false, true, true, true, false, true, false, false, false, false, false, false, false, false, false, false, false, false, false, false, false, false, false, false, false, false, false] HT_ ?_
           refine pS (i := 31) (N := some 103) #[true, true, true, true, true, true, true, false, false, false, false, true, true, true, false, true, false, false, true, true, true, false, true, true, false, false, true, true, true, false, true, true, false, false, false, false, false, false, false, false, false, false, false, false, false, false, false, false, false, false, false, false] HT_ ?_
           refine pS (i := 32) (N := some 104) #[true, true, true, true, true, true, true, false, false, false, false, true, true, true, false, true, false, false, true, true, true, false, true, true, false, false, true, true, true, false, true, true, true, false, false, false, false, false, false, false, false, false, false, false, false, false, false, false, false, false, false, false] HT_ ?_
           refine pS (i := 34) (N := some 106) #[true, true, true, true, true, true, true, false, false, false, false, true, true, true, false, true, false, false, true, true, true, false, true, true, false, false, true, true, true, false, true, true, true, false, true, false, false, false, false, false, false, false, false, false, false, false, false, false, false, false, false, false] HT_ ?_
           refine qTC [7, 8, 9, 10, 14, 16, 17, 21, 24, 25, 29, 33, 35, 36, 37, 38, 39, 40, 41, 42, 43, 44, 45, 46, 47, 48, 49, 50, 51] (fun a0_ b a w' => ∃ (s81 : Value) (s82 : Value) (s88 : Value) (s89 : Value) (s96 : Value) (s97 : Value) (s110 : Value) (s111 : Value), a = putSel a0_ b [(7, 79, .slice (some ad) n cd), (8, 80, .agg #[.int .i64 own.f0, .int .i64 own.f1, .int .i64 own.f2.f0, .int .i64 own.f2.f1, .int .i64 own.f2.f2, .int .i64 own.f2.f3, .int .i64 own.f2.f4, .int .i64 own.f2.f5]), (9, 81, s81), (10, 82, s82), (14, 86, v1), (16, 88, s88), (17, 89, s89), (21, 93, v2), (24, 96, s96), (25, 97, s97), (29, 101, .slice (some a3) n c3), (33, 105, .slice (some a3) n c3), (35, 107, .pointer (some (a3.add i))), (36, 108, .int .i64 p1), (37, 109, .int .i64 (p1 + 1)), (38, 110, s110), (39, 111, s111), (40, 112, .pointer (some ⟨gp, 0, none⟩)), (41, 113, .pointer (some ⟨gp, 0, none⟩)), (43, 114, .pointer (some ⟨gp, 0, none⟩)), (44, 115, .pointer (some ⟨gp, 1, none⟩)), (46, 116, .pointer (some ⟨gp, 0, none⟩)), (47, 117, .pointer (some ⟨gp, 2, none⟩)), (49, 118, .pointer (some ⟨gp, 0, none⟩)), (50, 119, .pointer (some ⟨gp, 3, none⟩))] ∧ (Below w.heap.size w w') ∧ (b 42 = false → w'.heap[gp]? = some (.cells #[.slice (some ad) n cd, v1, v2, .slice (some a3) n c3, .map (some gm)] 52 (0, 0))) ∧ (b 42 = true → b 45 = false → w'.heap[gp]? = some (.cells #[s82, v1, v2, .slice (some a3) n c3, .map (some gm)] 52 (0, 0))) ∧ (b 45 = true → b 48 = false → w'.heap[gp]? = some (.cells #[s82, s89, v2, .slice (some a3) n c3, .map (some gm)] 52 (0, 0))) ∧ (b 48 = true → b 51 = false → w'.heap[gp]? = some (.cells #[s82, s89, s97, .slice (some a3) n c3, .map (some gm)] 52 (0, 0))) ∧ (b 51 = true → w'.heap[gp]? = some (.cells #[s82, s89, s97, s111, .map (some gm)] 52 (0, 0))) ∧ (mapW.Is w' gm met1) ∧ (b 10 = false → w'.heap[g8]? = some (.cells #[.int .i64 own.f0, .int .i64 own.f1, .int .i64 own.f2.f0, .int .i64 own.f2.f1, .int .i64 own.f2.f2, .int .i64 own.f2.f3, .int .i64 own.f2.f4, .int .i64 own.f2.f5] 28 (0, 0))) ∧ (b 10 = false → Kd.R k28 28 w' w.heap.size (fun _ => True) (.slice (some ad) n cd) ds) ∧ (b 9 = true → b 10 = false → Kd.R k28 28 w' w.heap.size (fun _ => True) s81 [own]) ∧ (b 10 = true → Kd.R k28 28 w' w.heap.size (fun _ => True) s82 (ds ++ [own])) ∧ (b 17 = false → Kd.R (Kd.int .i64) 3 w' w.heap.size (fun _ => True) v1 fs) ∧ (b 16 = true → b 17 = false → Kd.R (Kd.int .i64) 3 w' w.heap.size (fun _ => True) s88 [(i : Int)]) ∧ (b 17 = true → Kd.R (Kd.int .i64) 3 w' w.heap.size (fun _ => True) s89 (fs ++ [(i : Int)])) ∧ (b 25 = false → Kd.R (Kd.int .u8) 5 w' w.heap.size (fun _ => True) v2 us) ∧ (b 24 = true → b 25 = false → Kd.R (Kd.int .u8) 5 w' w.heap.size (fun _ => True) s96 [sg]) ∧ (b 25 = true → Kd.R (Kd.int .u8) 5 w' w.heap.size (fun _ => True) s97 (us ++ [sg])) ∧ (b 39 = false → Kd.R (Kd.int .i64) 3 w' w.heap.size (fun _ => True) (.slice (some a3) n c3) qs) ∧ (b 38 = true → b 39 = false → Kd.R (Kd.int .i64) 3 w' w.heap.size (fun _ => True) s110 [(p1 + 1)]) ∧ (b 39 = true → Kd.R (Kd.int .i64) 3 w' w.heap.size (fun _ => True) s111 (qs ++ [(p1 + 1)])) ∧ (b 17 = false → ApartV v1 (.slice (some a3) n c3)) ∧ (b 17 = true → b 39 = false → ApartV s89 (.slice (some a3) n c3)) ∧ (b 39 = true → ApartV s89 s111) ∧ (b 38 = true → b 17 = false → ApartV v1 s110) ∧ (b 17 = true → b 38 = true → b 39 = false → ApartV s89 s110)) HT_.out HW_.out (by kernel_rfl) (by kernel_rfl) ?_ ?_ ?_
           ·exact ⟨.bool false, .bool false, .bool false, .bool false, .bool false, .bool false, .bool false, .bool false, by simp only [putSel, Bool.false_eq_true, if_false], qm B.out, fun _ => qE P0.out, fun h_ => absurd h_ (by decide), fun h_ => absurd h_ (by decide), fun h_ => absurd h_ (by decide), fun h_ => absurd h_ (by decide), M1.out.drew, fun _ => qE LS.out, fun _ => Kd.qc D0.out, fun h_ => absurd h_ (by decide), fun h_ => absurd h_ (by decide), fun _ => Kd.qc F0.out, fun h_ => absurd h_ (by decide), fun h_ => absurd h_ (by decide), fun _ => Kd.qc U0.out, fun h_ => absurd h_ (by decide), fun h_ => absurd h_ (by decide), fun _ => Kd.qc G0.out, fun h_ => absurd h_ (by decide), fun h_ => absurd h_ (by decide), fun _ => NFG.out, fun h_ => absurd h_ (by decide), fun h_ => absurd h_ (by decide), fun h_ => absurd h_ (by decide), fun h_ => absurd h_ (by decide)⟩
           ·skip
            clear B D0 F0 G0 LS M1 NFG P0 U0
            refine qL ?_ ?_
            ·rintro b a w' ⟨s81, s82, s88, s89, s96, s97, s110, s111, ha, Q_B, Q_P0, Q_P1, Q_P2, Q_P3, Q_P4, Q_M1, Q_LS, Q_D0, Q_LD, Q_D1, Q_F0, Q_LF, Q_F1, Q_U0, Q_LU, Q_U1, Q_G0, Q_LG, Q_G1, Q_NFG, Q_NF1, Q_NF2, Q_NL0, Q_NL1⟩ hb_ hon hoff
             refine ⟨_, rfl, fun K hK => ?_⟩
             have e78 : a.tmps[78]? = some (.pointer (some ⟨gp, 0, none⟩)) := by rw [ha]; exact (qi rfl).trans rfl
             replace ha := aM ha
             have B := aM Q_B
             have P0 := aM (Q_P0 (hoff 42 kr))
             have M1 := aM Q_M1
             have LS := aM (Q_LS (hoff 10 kr))
             have D0 := aM (Q_D0 (hoff 10 kr))
             have F0 := aM (Q_F0 (hoff 17 kr))
             have U0 := aM (Q_U0 (hoff 25 kr))
             have G0 := aM (Q_G0 (hoff 39 kr))
             have NFG := aM (Q_NFG (hoff 17 kr))
             have hc_ : w'.cell? ⟨gp, 0, none⟩ = some (.slice (some ad) n cd) := (qD P0.out 0).trans rfl
             refine qw (w1 := w') (v := .slice (some ad) n cd) (by rfl) rfl ?_ ?_
             ·go_simp
              (try simp only [i64_w])
              try rfl
             refine hK.out _ _ ⟨s81, s82, s88, s89, s96, s97, s110, s111, (by rw [ha.out]; exact qM 0 hb_ rfl rfl rfl), Q_B, Q_P0, fun h0_ _ => aF (hoff 42 kr) h0_, fun h0_ _ => aF (hoff 45 kr) h0_, fun h0_ _ => aF (hoff 48 kr) h0_, fun h0_ => aF (hoff 51 kr) h0_, Q_M1, Q_LS, Q_D0, Q_LD, fun h0_ => aF (hoff 10 kr) h0_, Q_F0, Q_LF, fun h0_ => aF (hoff 17 kr) h0_, Q_U0, Q_LU, fun h0_ => aF (hoff 25 kr) h0_, Q_G0, Q_LG, fun h0_ => aF (hoff 39 kr) h0_, Q_NFG, fun h0_ _ => aF (hoff 17 kr) h0_, fun h0_ => aF (hoff 39 kr) h0_, Q_NL0, fun h0_ _ _ => aF (hoff 17 kr) h0_⟩
            refine qL ?_ ?_
            ·rintro b a w' ⟨s81, s82, s88, s89, s96, s97, s110, s111, ha, Q_B, Q_P0, Q_P1, Q_P2, Q_P3, Q_P4, Q_M1, Q_LS, Q_D0, Q_LD, Q_D1, Q_F0, Q_LF, Q_F1, Q_U0, Q_LU, Q_U1, Q_G0, Q_LG, Q_G1, Q_NFG, Q_NF1, Q_NF2, Q_NL0, Q_NL1⟩ hb_ hon hoff
             refine ⟨_, rfl, fun K hK => ?_⟩
             have e8 : a.tmps[8]? = some (.pointer (some ⟨g8, 0, none⟩)) := by rw [ha]; exact (qi rfl).trans rfl
             replace ha := aM ha
             have B := aM Q_B
             have P0 := aM (Q_P0 (hoff 42 kr))
             have M1 := aM Q_M1
             have LS := aM (Q_LS (hoff 10 kr))
             have D0 := aM (Q_D0 (hoff 10 kr))
             have F0 := aM (Q_F0 (hoff 17 kr))
             have U0 := aM (Q_U0 (hoff 25 kr))
             have G0 := aM (Q_G0 (hoff 39 kr))
             have NFG := aM (Q_NFG (hoff 17 kr))
             have hc0_ : w'.cell? ⟨g8, 0, none⟩ = some (.int .i64 own.f0) := (qD LS.out 0).trans rfl
             have hc1_ : w'.cell? ⟨g8, 1, none⟩ = some (.int .i64 own.f1) := (qD LS.out 1).trans rfl
             have hc2_ : w'.cell? ⟨g8, 2, none⟩ = some (.int .i64 own.f2.f0) := (qD LS.out 2).trans rfl
             have hc3_ : w'.cell? ⟨g8, 3, none⟩ = some (.int .i64 own.f2.f1) := (qD LS.out 3).trans rfl
             have hc4_ : w'.cell? ⟨g8, 4, none⟩ = some (.int .i64 own.f2.f2) := (qD LS.out 4).trans rfl
             have hc5_ : w'.cell? ⟨g8, 5, none⟩ = some (.int .i64 own.f2.f3) := (qD LS.out 5).trans rfl
             have hc6_ : w'.cell? ⟨g8, 6, none⟩ = some (.int .i64 own.f2.f4) := (qD LS.out 6).trans rfl
             have hc7_ : w'.cell? ⟨g8, 7, none⟩ = some (.int .i64 own.f2.f5) := (qD LS.out 7).trans rfl
             refine qw (w1 := w') (v := .agg #[.int .i64 own.f0, .int .i64 own.f1, .int .i64 own.f2.f0, .int .i64 own.f2.f1, .int .i64 own.f2.f2, .int .i64 own.f2.f3, .int .i64 own.f2.f4, .int .i64 own.f2.f5]) (by rfl) rfl ?_ ?_
             ·go_simp
              (try simp only [i64_w])
              try rfl
             refine hK.out _ _ ⟨s81, s82, s88, s89, s96, s97, s110, s111, (by rw [ha.out]; exact qM 1 hb_ rfl rfl rfl), Q_B, Q_P0, fun h0_ _ => aF (hoff 42 kr) h0_, fun h0_ _ => aF (hoff 45 kr) h0_, fun h0_ _ => aF (hoff 48 kr) h0_, fun h0_ => aF (hoff 51 kr) h0_, Q_M1, Q_LS, Q_D0, fun h0_ _ => aF (hoff 9 kr) h0_, fun h0_ => aF (hoff 10 kr) h0_, Q_F0, Q_LF, fun h0_ => aF (hoff 17 kr) h0_, Q_U0, Q_LU, fun h0_ => aF (hoff 25 kr) h0_, Q_G0, Q_LG, fun h0_ => aF (hoff 39 kr) h0_, Q_NFG, fun h0_ _ => aF (hoff 17 kr) h0_, fun h0_ => aF (hoff 39 kr) h0_, Q_NL0, fun h0_ _ _ => aF (hoff 17 kr) h0_⟩
            refine qL ?_ ?_
            ·rintro b a w' ⟨s81, s82, s88, s89, s96, s97, s110, s111, ha, Q_B, Q_P0, Q_P1, Q_P2, Q_P3, Q_P4, Q_M1, Q_LS, Q_D0, Q_LD, Q_D1, Q_F0, Q_LF, Q_F1, Q_U0, Q_LU, Q_U1, Q_G0, Q_LG, Q_G1, Q_NFG, Q_NF1, Q_NF2, Q_NL0, Q_NL1⟩ hb_ hon hoff
             refine ⟨_, rfl, fun K hK => ?_⟩
             have e80 : a.tmps[80]? = some (.agg #[.int .i64 own.f0, .int .i64 own.f1, .int .i64 own.f2.f0, .int .i64 own.f2.f1, .int .i64 own.f2.f2, .int .i64 own.f2.f3, .int .i64 own.f2.f4, .int .i64 own.f2.f5]) := by rw [ha]; exact qO (e := (8, 80, .agg #[.int .i64 own.f0, .int .i64 own.f1, .int .i64 own.f2.f0, .int .i64 own.f2.f1, .int .i64 own.f2.f2, .int .i64 own.f2.f3, .int .i64 own.f2.f4, .int .i64 own.f2.f5])) 1 rfl rfl (hon 8 kr) rfl
             replace ha := aM ha
             have B := aM Q_B
             have P0 := aM (Q_P0 (hoff 42 kr))
             have M1 := aM Q_M1
             have LS := aM (Q_LS (hoff 10 kr))
             have D0 := aM (Q_D0 (hoff 10 kr))
             have F0 := aM (Q_F0 (hoff 17 kr))
             have U0 := aM (Q_U0 (hoff 25 kr))
             have G0 := aM (Q_G0 (hoff 39 kr))
             have NFG := aM (Q_NFG (hoff 17 kr))
             refine Kd.qeA k28 (w0 := w) w.heap.size 28 (by rfl) (N := 81) rfl (xs := ([own] : List _)) (inner := [.int .i64 own.f0, .int .i64 own.f1, .int .i64 own.f2.f0, .int .i64 own.f2.f1, .int .i64 own.f2.f2, .int .i64 own.f2.f3, .int .i64 own.f2.f4, .int .i64 own.f2.f5]) (ok := fun _ => True) (okp := fun _ => False) ?hr9 ?hp9 (fun _ hk => hk.elim) trivial B.out B.out.size (by simp) ?_
             case hr9 => first | (go_simp; done) | (go_simp; rfl)
             case hp9 => exact Reps.c8 (show Kd.M k28 _ _ _ own [.int .i64 own.f0, .int .i64 own.f1, .int .i64 own.f2.f0, .int .i64 own.f2.f1, .int .i64 own.f2.f2, .int .i64 own.f2.f3, .int .i64 own.f2.f4, .int .i64 own.f2.f5] from qbC _ _ _ _) (Reps.none _ _)
             intro v_ w1_ hR_ hB_ hg_ hnew_
             refine hK.out _ _ ⟨v_, s82, s88, s89, s96, s97, s110, s111, (by rw [ha.out]; exact qM 2 hb_ rfl rfl rfl), hB_, fun _ => qh P0.out hg_ (by simp), fun h0_ _ => aF (hoff 42 kr) h0_, fun h0_ _ => aF (hoff 45 kr) h0_, fun h0_ _ => aF (hoff 48 kr) h0_, fun h0_ => aF (hoff 51 kr) h0_, M1.out.qUA (hg_.block gm M1.out.lt (by simp)), fun _ => qh LS.out hg_ (by simp), fun _ => plLit0 D0.out hg_, fun _ _ => hR_, fun h0_ => aF (hoff 10 kr) h0_, fun _ => plLit0 F0.out hg_, fun h0_ h1_ => plLit0 (Q_LF h0_ h1_) hg_, fun h0_ => aF (hoff 17 kr) h0_, fun _ => plLit0 U0.out hg_, fun h0_ h1_ => plLit0 (Q_LU h0_ h1_) hg_, fun h0_ => aF (hoff 25 kr) h0_, fun _ => plLit0 G0.out hg_, fun h0_ h1_ => plLit0 (Q_LG h0_ h1_) hg_, fun h0_ => aF (hoff 39 kr) h0_, Q_NFG, fun h0_ _ => aF (hoff 17 kr) h0_, fun h0_ => aF (hoff 39 kr) h0_, Q_NL0, fun h0_ _ _ => aF (hoff 17 kr) h0_⟩
            refine qL ?_ ?_
            ·rintro b a w' ⟨s81, s82, s88, s89, s96, s97, s110, s111, ha, Q_B, Q_P0, Q_P1, Q_P2, Q_P3, Q_P4, Q_M1, Q_LS, Q_D0, Q_LD, Q_D1, Q_F0, Q_LF, Q_F1, Q_U0, Q_LU, Q_U1, Q_G0, Q_LG, Q_G1, Q_NFG, Q_NF1, Q_NF2, Q_NL0, Q_NL1⟩ hb_ hon hoff
             refine ⟨_, rfl, fun K hK => ?_⟩
             have e79 : a.tmps[79]? = some (.slice (some ad) n cd) := by rw [ha]; exact qO (e := (7, 79, .slice (some ad) n cd)) 0 rfl rfl (hon 7 kr) rfl
             have e81 : a.tmps[81]? = some (s81) := by rw [ha]; exact qO (e := (9, 81, s81)) 2 rfl rfl (hon 9 kr) rfl
             replace ha := aM ha
             have B := aM Q_B
             have P0 := aM (Q_P0 (hoff 42 kr))
             have M1 := aM Q_M1
             have LS := aM (Q_LS hb_)
             have D0 := aM (Q_D0 hb_)
             have LD := aM (Q_LD (hon 9 kr) hb_)
             have F0 := aM (Q_F0 (hoff 17 kr))
             have U0 := aM (Q_U0 (hoff 25 kr))
             have G0 := aM (Q_G0 (hoff 39 kr))
             have NFG := aM (Q_NFG (hoff 17 kr))
             obtain ⟨A_, c_, hs_, hle_, HRd_⟩ := OwnRow.reads LD.out.2
             have hbd_ := HBD.out
             refine Kd.qrA k28 (w0 := w) w.heap.size (by rfl) (.tmp 79) (.tmp 81) 48 28 (.agg #[.int .i64 0, .int .i64 0, .int .i64 0, .int .i64 0, .int .i64 0, .int .i64 0, .int .i64 0, .int .i64 0]) 64 rfl Tryd.underlying48 rcInfoS rfl (by show 0 < 8; omega) (by omega) (.slice (some ad) n cd) ds [own] A_ _ c_ (fun _ => True) (fun _ => False) (qjA e79) ((qjA e81).trans hs_) D0.out HRd_ (fun x_ cs_ hk_ => by obtain rfl := k28_openM hk_; exact qbC _ _ _ x_) (fun _ hk => hk.elim) (fun _ _ => trivial) B.out B.out.size (by simp only [List.length_cons, List.length_nil]; omega) ?_
             intro v_ w1_ hR_ hB_ hg_ hat_
             refine hK.out _ _ ⟨s81, v_, s88, s89, s96, s97, s110, s111, (by rw [ha.out]; exact qM 3 hb_ rfl rfl rfl), hB_, fun _ => qh P0.out hg_ (Kd.R_ne D0.out P0.out (by decide)), fun h0_ _ => aF (hoff 42 kr) h0_, fun h0_ _ => aF (hoff 45 kr) h0_, fun h0_ _ => aF (hoff 48 kr) h0_, fun h0_ => aF (hoff 51 kr) h0_, M1.out.qUA (hg_.block gm M1.out.lt (M1.out.ne D0.out)), fun h0_ => absurd ((qVA b 10).symm.trans h0_) (by decide), fun h0_ => absurd ((qVA b 10).symm.trans h0_) (by decide), fun _ h1_ => absurd ((qVA b 10).symm.trans h1_) (by decide), fun _ => hR_, fun _ => Kd.qiA F0.out (Kd.qYA D0.out) (by decide) hg_, fun h0_ h1_ => Kd.qiA (Q_LF h0_ h1_) (Kd.qYA D0.out) (by decide) hg_, fun h0_ => aF (hoff 17 kr) h0_, fun _ => Kd.qiA U0.out (Kd.qYA D0.out) (by decide) hg_, fun h0_ h1_ => Kd.qiA (Q_LU h0_ h1_) (Kd.qYA D0.out) (by decide) hg_, fun h0_ => aF (hoff 25 kr) h0_, fun _ => Kd.qiA G0.out (Kd.qYA D0.out) (by decide) hg_, fun h0_ h1_ => Kd.qiA (Q_LG h0_ h1_) (Kd.qYA D0.out) (by decide) hg_, fun h0_ => aF (hoff 39 kr) h0_, Q_NFG, fun h0_ _ => aF (hoff 17 kr) h0_, fun h0_ => aF (hoff 39 kr) h0_, Q_NL0, fun h0_ _ _ => aF (hoff 17 kr) h0_⟩
            refine qL ?_ ?_
            ·rintro b a w' ⟨s81, s82, s88, s89, s96, s97, s110, s111, ha, Q_B, Q_P0, Q_P1, Q_P2, Q_P3, Q_P4, Q_M1, Q_LS, Q_D0, Q_LD, Q_D1, Q_F0, Q_LF, Q_F1, Q_U0, Q_LU, Q_U1, Q_G0, Q_LG, Q_G1, Q_NFG, Q_NF1, Q_NF2, Q_NL0, Q_NL1⟩ hb_ hon hoff
             refine ⟨_, rfl, fun K hK => ?_⟩
             have e85 : a.tmps[85]? = some (.pointer (some ⟨gp, 1, none⟩)) := by rw [ha]; exact (qi rfl).trans rfl
             replace ha := aM ha
             have B := aM Q_B
             have P0 := aM (Q_P0 (hoff 42 kr))
             have M1 := aM Q_M1
             have F0 := aM (Q_F0 (hoff 17 kr))
             have U0 := aM (Q_U0 (hoff 25 kr))
             have G0 := aM (Q_G0 (hoff 39 kr))
             have NFG := aM (Q_NFG (hoff 17 kr))
             have hc_ : w'.cell? ⟨gp, 1, none⟩ = some v1 := (qD P0.out 1).trans rfl
             refine qw (w1 := w') (v := v1) (by rfl) rfl ?_ ?_
             ·go_simp
              (try simp only [i64_w])
              try rfl
             refine hK.out _ _ ⟨s81, s82, s88, s89, s96, s97, s110, s111, (by rw [ha.out]; exact qM 4 hb_ rfl rfl rfl), Q_B, Q_P0, fun h0_ _ => aF (hoff 42 kr) h0_, fun h0_ _ => aF (hoff 45 kr) h0_, fun h0_ _ => aF (hoff 48 kr) h0_, fun h0_ => aF (hoff 51 kr) h0_, Q_M1, Q_LS, Q_D0, Q_LD, Q_D1, Q_F0, Q_LF, fun h0_ => aF (hoff 17 kr) h0_, Q_U0, Q_LU, fun h0_ => aF (hoff 25 kr) h0_, Q_G0, Q_LG, fun h0_ => aF (hoff 39 kr) h0_, Q_NFG, fun h0_ _ => aF (hoff 17 kr) h0_, fun h0_ => aF (hoff 39 kr) h0_, Q_NL0, fun h0_ _ _ => aF (hoff 17 kr) h0_⟩
            refine qL ?_ ?_
            ·rintro b a w' ⟨s81, s82, s88, s89, s96, s97, s110, s111, ha, Q_B, Q_P0, Q_P1, Q_P2, Q_P3, Q_P4, Q_M1, Q_LS, Q_D0, Q_LD, Q_D1, Q_F0, Q_LF, Q_F1, Q_U0, Q_LU, Q_U1, Q_G0, Q_LG, Q_G1, Q_NFG, Q_NF1, Q_NF2, Q_NL0, Q_NL1⟩ hb_ hon hoff
             refine ⟨_, rfl, fun K hK => ?_⟩
             have e87 : a.tmps[87]? = some (.int .i64 (i : Int)) := by rw [ha]; exact (qi rfl).trans rfl
             replace ha := aM ha
             have B := aM Q_B
             have P0 := aM (Q_P0 (hoff 42 kr))
             have M1 := aM Q_M1
             have F0 := aM (Q_F0 (hoff 17 kr))
             have U0 := aM (Q_U0 (hoff 25 kr))
             have G0 := aM (Q_G0 (hoff 39 kr))
             have NFG := aM (Q_NFG (hoff 17 kr))
             refine Kd.qeA (Kd.int .i64) (w0 := w) w.heap.size 3 (by rfl) (N := 88) rfl (xs := ([(i : Int)] : List _)) (inner := [.int .i64 (i : Int)]) (ok := fun _ => True) (okp := fun _ => False) ?hr16 ?hp16 (fun _ hk => hk.elim) trivial B.out B.out.size (by simp) ?_
             case hr16 => first | (go_simp; done) | (go_simp; rfl)
             case hp16 => exact Reps.one (show Kd.M (Kd.int .i64) _ _ _ (i : Int) [.int .i64 (i : Int)] from rfl) (Reps.none _ _)
             intro v_ w1_ hR_ hB_ hg_ hnew_
             refine hK.out _ _ ⟨s81, s82, v_, s89, s96, s97, s110, s111, (by rw [ha.out]; exact qM 5 hb_ rfl rfl rfl), hB_, fun _ => qh P0.out hg_ (by simp), fun h0_ _ => aF (hoff 42 kr) h0_, fun h0_ _ => aF (hoff 45 kr) h0_, fun h0_ _ => aF (hoff 48 kr) h0_, fun h0_ => aF (hoff 51 kr) h0_, M1.out.qUA (hg_.block gm M1.out.lt (by simp)), fun h0_ => qh (Q_LS h0_) hg_ (by simp), fun h0_ => plLit0 (Q_D0 h0_) hg_, fun h0_ h1_ => plLit0 (Q_LD h0_ h1_) hg_, fun h0_ => plLit0 (Q_D1 h0_) hg_, fun _ => plLit0 F0.out hg_, fun _ _ => hR_, fun h0_ => aF (hoff 17 kr) h0_, fun _ => plLit0 U0.out hg_, fun h0_ h1_ => plLit0 (Q_LU h0_ h1_) hg_, fun h0_ => aF (hoff 25 kr) h0_, fun _ => plLit0 G0.out hg_, fun h0_ h1_ => plLit0 (Q_LG h0_ h1_) hg_, fun h0_ => aF (hoff 39 kr) h0_, Q_NFG, fun h0_ _ => aF (hoff 17 kr) h0_, fun h0_ => aF (hoff 39 kr) h0_, Q_NL0, fun h0_ _ _ => aF (hoff 17 kr) h0_⟩
            refine qL ?_ ?_
            ·rintro b a w' ⟨s81, s82, s88, s89, s96, s97, s110, s111, ha, Q_B, Q_P0, Q_P1, Q_P2, Q_P3, Q_P4, Q_M1, Q_LS, Q_D0, Q_LD, Q_D1, Q_F0, Q_LF, Q_F1, Q_U0, Q_LU, Q_U1, Q_G0, Q_LG, Q_G1, Q_NFG, Q_NF1, Q_NF2, Q_NL0, Q_NL1⟩ hb_ hon hoff
             refine ⟨_, rfl, fun K hK => ?_⟩
             have e86 : a.tmps[86]? = some (v1) := by rw [ha]; exact qO (e := (14, 86, v1)) 4 rfl rfl (hon 14 kr) rfl
             have e88 : a.tmps[88]? = some (s88) := by rw [ha]; exact qO (e := (16, 88, s88)) 5 rfl rfl (hon 16 kr) rfl
             replace ha := aM ha
             have B := aM Q_B
             have P0 := aM (Q_P0 (hoff 42 kr))
             have M1 := aM Q_M1
             have D1 := aM (Q_D1 (hon 10 kr))
             have F0 := aM (Q_F0 hb_)
             have LF := aM (Q_LF (hon 16 kr) hb_)
             have U0 := aM (Q_U0 (hoff 25 kr))
             have G0 := aM (Q_G0 (hoff 39 kr))
             have NFG := aM (Q_NFG hb_)
             obtain ⟨A_, c_, hs_, hle_, HRd_⟩ := OwnRow.reads LF.out.2
             have hbd_ := HBD.out
             refine Kd.qrA (Kd.int .i64) (w0 := w) w.heap.size (by rfl) (.tmp 86) (.tmp 88) 49 3 (.int .i64 0) 8 rfl Tryd.underlying49 rcInfoI rfl (by show 0 < 1; omega) (by omega) v1 fs [(i : Int)] A_ _ c_ (fun _ => True) (fun _ => False) (qjA e86) ((qjA e88).trans hs_) F0.out HRd_ (fun _ _ hk_ => hk_) (fun _ hk => hk.elim) (fun _ _ => trivial) B.out B.out.size (by simp only [List.length_cons, List.length_nil]; omega) ?_
             intro v_ w1_ hR_ hB_ hg_ hat_
             refine hK.out _ _ ⟨s81, s82, s88, v_, s96, s97, s110, s111, (by rw [ha.out]; exact qM 6 hb_ rfl rfl rfl), hB_, fun _ => qh P0.out hg_ (Kd.R_ne F0.out P0.out (by decide)), fun h0_ _ => aF (hoff 42 kr) h0_, fun h0_ _ => aF (hoff 45 kr) h0_, fun h0_ _ => aF (hoff 48 kr) h0_, fun h0_ => aF (hoff 51 kr) h0_, M1.out.qUA (hg_.block gm M1.out.lt (M1.out.ne F0.out)), fun h0_ => aT (hon 10 kr) h0_, fun h0_ => aT (hon 10 kr) h0_, fun _ h1_ => aT (hon 10 kr) h1_, fun _ => Kd.qiA D1.out (Kd.qYA F0.out) (by decide) hg_, fun h0_ => absurd ((qVA b 17).symm.trans h0_) (by decide), fun _ h1_ => absurd ((qVA b 17).symm.trans h1_) (by decide), fun _ => hR_, fun _ => Kd.qiA U0.out (Kd.qYA F0.out) (by decide) hg_, fun h0_ h1_ => Kd.qiA (Q_LU h0_ h1_) (Kd.qYA F0.out) (by decide) hg_, fun h0_ => aF (hoff 25 kr) h0_, fun _ => Kd.qfC G0.out rfl hg_ (fun k_ hk_ => NFG.out k_ hk_), fun h0_ h1_ => Kd.qfC (Q_LG h0_ h1_) rfl hg_ (Q_NL0 h0_ hb_), fun h0_ => aF (hoff 39 kr) h0_, fun h0_ => absurd ((qVA b 17).symm.trans h0_) (by decide), fun _ _ => qGC hat_ NFG.out (Kd.R_lt G0.out), fun h0_ => aF (hoff 39 kr) h0_, fun _ h1_ => absurd ((qVA b 17).symm.trans h1_) (by decide), fun _ h1_ h2_ => qGC hat_ (Q_NL0 h1_ hb_) (Kd.R_lt (Q_LG h1_ h2_))⟩
            refine qL ?_ ?_
            ·rintro b a w' ⟨s81, s82, s88, s89, s96, s97, s110, s111, ha, Q_B, Q_P0, Q_P1, Q_P2, Q_P3, Q_P4, Q_M1, Q_LS, Q_D0, Q_LD, Q_D1, Q_F0, Q_LF, Q_F1, Q_U0, Q_LU, Q_U1, Q_G0, Q_LG, Q_G1, Q_NFG, Q_NF1, Q_NF2, Q_NL0, Q_NL1⟩ hb_ hon hoff
             refine ⟨_, rfl, fun K hK => ?_⟩
             have e92 : a.tmps[92]? = some (.pointer (some ⟨gp, 2, none⟩)) := by rw [ha]; exact (qi rfl).trans rfl
             replace ha := aM ha
             have B := aM Q_B
             have P0 := aM (Q_P0 (hoff 42 kr))
             have M1 := aM Q_M1
             have U0 := aM (Q_U0 (hoff 25 kr))
             have G0 := aM (Q_G0 (hoff 39 kr))
             have hc_ : w'.cell? ⟨gp, 2, none⟩ = some v2 := (qD P0.out 2).trans rfl
             refine qw (w1 := w') (v := v2) (by rfl) rfl ?_ ?_
             ·go_simp
              (try simp only [i64_w])
              try rfl
             refine hK.out _ _ ⟨s81, s82, s88, s89, s96, s97, s110, s111, (by rw [ha.out]; exact qM 7 hb_ rfl rfl rfl), Q_B, Q_P0, fun h0_ _ => aF (hoff 42 kr) h0_, fun h0_ _ => aF (hoff 45 kr) h0_, fun h0_ _ => aF (hoff 48 kr) h0_, fun h0_ => aF (hoff 51 kr) h0_, Q_M1, Q_LS, Q_D0, Q_LD, Q_D1, Q_F0, Q_LF, Q_F1, Q_U0, Q_LU, fun h0_ => aF (hoff 25 kr) h0_, Q_G0, Q_LG, fun h0_ => aF (hoff 39 kr) h0_, Q_NFG, Q_NF1, fun h0_ => aF (hoff 39 kr) h0_, Q_NL0, Q_NL1⟩
            refine qL ?_ ?_
            ·rintro b a w' ⟨s81, s82, s88, s89, s96, s97, s110, s111, ha, Q_B, Q_P0, Q_P1, Q_P2, Q_P3, Q_P4, Q_M1, Q_LS, Q_D0, Q_LD, Q_D1, Q_F0, Q_LF, Q_F1, Q_U0, Q_LU, Q_U1, Q_G0, Q_LG, Q_G1, Q_NFG, Q_NF1, Q_NF2, Q_NL0, Q_NL1⟩ hb_ hon hoff
             refine ⟨_, rfl, fun K hK => ?_⟩
             have e95 : a.tmps[95]? = some (.int .u8 sg) := by rw [ha]; exact (qi rfl).trans rfl
             replace ha := aM ha
             have B := aM Q_B
             have P0 := aM (Q_P0 (hoff 42 kr))
             have M1 := aM Q_M1
             have U0 := aM (Q_U0 (hoff 25 kr))
             have G0 := aM (Q_G0 (hoff 39 kr))
             refine Kd.qeA (Kd.int .u8) (w0 := w) w.heap.size 5 (by rfl) (N := 96) rfl (xs := ([sg] : List _)) (inner := [.int .u8 sg]) (ok := fun _ => True) (okp := fun _ => False) ?hr24 ?hp24 (fun _ hk => hk.elim) trivial B.out B.out.size (by simp) ?_
             case hr24 => first | (go_simp; done) | (go_simp; rfl)
             case hp24 => exact Reps.one (show Kd.M (Kd.int .u8) _ _ _ sg [.int .u8 sg] from rfl) (Reps.none _ _)
             intro v_ w1_ hR_ hB_ hg_ hnew_
             refine hK.out _ _ ⟨s81, s82, s88, s89, v_, s97, s110, s111, (by rw [ha.out]; exact qM 8 hb_ rfl rfl rfl), hB_, fun _ => qh P0.out hg_ (by simp), fun h0_ _ => aF (hoff 42 kr) h0_, fun h0_ _ => aF (hoff 45 kr) h0_, fun h0_ _ => aF (hoff 48 kr) h0_, fun h0_ => aF (hoff 51 kr) h0_, M1.out.qUA (hg_.block gm M1.out.lt (by simp)), fun h0_ => qh (Q_LS h0_) hg_ (by simp), fun h0_ => plLit0 (Q_D0 h0_) hg_, fun h0_ h1_ => plLit0 (Q_LD h0_ h1_) hg_, fun h0_ => plLit0 (Q_D1 h0_) hg_, fun h0_ => plLit0 (Q_F0 h0_) hg_, fun h0_ h1_ => plLit0 (Q_LF h0_ h1_) hg_, fun h0_ => plLit0 (Q_F1 h0_) hg_, fun _ => plLit0 U0.out hg_, fun _ _ => hR_, fun h0_ => aF (hoff 25 kr) h0_, fun _ => plLit0 G0.out hg_, fun h0_ h1_ => plLit0 (Q_LG h0_ h1_) hg_, fun h0_ => aF (hoff 39 kr) h0_, Q_NFG, Q_NF1, fun h0_ => aF (hoff 39 kr) h0_, Q_NL0, Q_NL1⟩
            refine qL ?_ ?_
            ·rintro b a w' ⟨s81, s82, s88, s89, s96, s97, s110, s111, ha, Q_B, Q_P0, Q_P1, Q_P2, Q_P3, Q_P4, Q_M1, Q_LS, Q_D0, Q_LD, Q_D1, Q_F0, Q_LF, Q_F1, Q_U0, Q_LU, Q_U1, Q_G0, Q_LG, Q_G1, Q_NFG, Q_NF1, Q_NF2, Q_NL0, Q_NL1⟩ hb_ hon hoff
             refine ⟨_, rfl, fun K hK => ?_⟩
             have e93 : a.tmps[93]? = some (v2) := by rw [ha]; exact qO (e := (21, 93, v2)) 7 rfl rfl (hon 21 kr) rfl
             have e96 : a.tmps[96]? = some (s96) := by rw [ha]; exact qO (e := (24, 96, s96)) 8 rfl rfl (hon 24 kr) rfl
             replace ha := aM ha
             have B := aM Q_B
             have P0 := aM (Q_P0 (hoff 42 kr))
             have M1 := aM Q_M1
             have D1 := aM (Q_D1 (hon 10 kr))
             have F1 := aM (Q_F1 (hon 17 kr))
             have U0 := aM (Q_U0 hb_)
             have LU := aM (Q_LU (hon 24 kr) hb_)
             have G0 := aM (Q_G0 (hoff 39 kr))
             have NF1 := aM (Q_NF1 (hon 17 kr) (hoff 39 kr))
             obtain ⟨A_, c_, hs_, hle_, HRd_⟩ := OwnRow.reads LU.out.2
             have hbd_ := HBD.out
             refine Kd.qrA (Kd.int .u8) (w0 := w) w.heap.size (by rfl) (.tmp 93) (.tmp 96) 34 5 (.int .u8 0) 1 rfl Tryd.underlying34 rcInfoU rfl (by show 0 < 1; omega) (by omega) v2 us [sg] A_ _ c_ (fun _ => True) (fun _ => False) (qjA e93) ((qjA e96).trans hs_) U0.out HRd_ (fun _ _ hk_ => hk_) (fun _ hk => hk.elim) (fun _ _ => trivial) B.out B.out.size (by simp only [List.length_cons, List.length_nil]; omega) ?_
             intro v_ w1_ hR_ hB_ hg_ hat_
             refine hK.out _ _ ⟨s81, s82, s88, s89, s96, v_, s110, s111, (by rw [ha.out]; exact qM 9 hb_ rfl rfl rfl), hB_, fun _ => qh P0.out hg_ (Kd.R_ne U0.out P0.out (by decide)), fun h0_ _ => aF (hoff 42 kr) h0_, fun h0_ _ => aF (hoff 45 kr) h0_, fun h0_ _ => aF (hoff 48 kr) h0_, fun h0_ => aF (hoff 51 kr) h0_, M1.out.qUA (hg_.block gm M1.out.lt (M1.out.ne U0.out)), fun h0_ => aT (hon 10 kr) h0_, fun h0_ => aT (hon 10 kr) h0_, fun _ h1_ => aT (hon 10 kr) h1_, fun _ => Kd.qiA D1.out (Kd.qYA U0.out) (by decide) hg_, fun h0_ => aT (hon 17 kr) h0_, fun _ h1_ => aT (hon 17 kr) h1_, fun _ => Kd.qiA F1.out (Kd.qYA U0.out) (by decide) hg_, fun h0_ => absurd ((qVA b 25).symm.trans h0_) (by decide), fun _ h1_ => absurd ((qVA b 25).symm.trans h1_) (by decide), fun _ => hR_, fun _ => Kd.qiA G0.out (Kd.qYA U0.out) (by decide) hg_, fun h0_ h1_ => Kd.qiA (Q_LG h0_ h1_) (Kd.qYA U0.out) (by decide) hg_, fun h0_ => aF (hoff 39 kr) h0_, fun h0_ => aT (hon 17 kr) h0_, Q_NF1, fun h0_ => aF (hoff 39 kr) h0_, fun _ h1_ => aT (hon 17 kr) h1_, Q_NL1⟩
            refine qL ?_ ?_
            ·rintro b a w' ⟨s81, s82, s88, s89, s96, s97, s110, s111, ha, Q_B, Q_P0, Q_P1, Q_P2, Q_P3, Q_P4, Q_M1, Q_LS, Q_D0, Q_LD, Q_D1, Q_F0, Q_LF, Q_F1, Q_U0, Q_LU, Q_U1, Q_G0, Q_LG, Q_G1, Q_NFG, Q_NF1, Q_NF2, Q_NL0, Q_NL1⟩ hb_ hon hoff
             refine ⟨_, rfl, fun K hK => ?_⟩
             have e100 : a.tmps[100]? = some (.pointer (some ⟨gp, 3, none⟩)) := by rw [ha]; exact (qi rfl).trans rfl
             replace ha := aM ha
             have B := aM Q_B
             have P0 := aM (Q_P0 (hoff 42 kr))
             have M1 := aM Q_M1
             have G0 := aM (Q_G0 (hoff 39 kr))
             have hc_ : w'.cell? ⟨gp, 3, none⟩ = some (.slice (some a3) n c3) := (qD P0.out 3).trans rfl
             refine qw (w1 := w') (v := .slice (some a3) n c3) (by rfl) rfl ?_ ?_
             ·go_simp
              (try simp only [i64_w])
              try rfl
             refine hK.out _ _ ⟨s81, s82, s88, s89, s96, s97, s110, s111, (by rw [ha.out]; exact qM 10 hb_ rfl rfl rfl), Q_B, Q_P0, fun h0_ _ => aF (hoff 42 kr) h0_, fun h0_ _ => aF (hoff 45 kr) h0_, fun h0_ _ => aF (hoff 48 kr) h0_, fun h0_ => aF (hoff 51 kr) h0_, Q_M1, Q_LS, Q_D0, Q_LD, Q_D1, Q_F0, Q_LF, Q_F1, Q_U0, Q_LU, Q_U1, Q_G0, Q_LG, fun h0_ => aF (hoff 39 kr) h0_, Q_NFG, Q_NF1, fun h0_ => aF (hoff 39 kr) h0_, Q_NL0, Q_NL1⟩
            refine qL ?_ ?_
            ·rintro b a w' ⟨s81, s82, s88, s89, s96, s97, s110, s111, ha, Q_B, Q_P0, Q_P1, Q_P2, Q_P3, Q_P4, Q_M1, Q_LS, Q_D0, Q_LD, Q_D1, Q_F0, Q_LF, Q_F1, Q_U0, Q_LU, Q_U1, Q_G0, Q_LG, Q_G1, Q_NFG, Q_NF1, Q_NF2, Q_NL0, Q_NL1⟩ hb_ hon hoff
             refine ⟨_, rfl, fun K hK => ?_⟩
             have e104 : a.tmps[104]? = some (.pointer (some ⟨gp, 3, none⟩)) := by rw [ha]; exact (qi rfl).trans rfl
             replace ha := aM ha
             have B := aM Q_B
             have P0 := aM (Q_P0 (hoff 42 kr))
             have M1 := aM Q_M1
             have G0 := aM (Q_G0 (hoff 39 kr))
             have hc_ : w'.cell? ⟨gp, 3, none⟩ = some (.slice (some a3) n c3) := (qD P0.out 3).trans rfl
             refine qw (w1 := w') (v := .slice (some a3) n c3) (by rfl) rfl ?_ ?_
             ·go_simp
              (try simp only [i64_w])
              try rfl
             refine hK.out _ _ ⟨s81, s82, s88, s89, s96, s97, s110, s111, (by rw [ha.out]; exact qM 11 hb_ rfl rfl rfl), Q_B, Q_P0, fun h0_ _ => aF (hoff 42 kr) h0_, fun h0_ _ => aF (hoff 45 kr) h0_, fun h0_ _ => aF (hoff 48 kr) h0_, fun h0_ => aF (hoff 51 kr) h0_, Q_M1, Q_LS, Q_D0, Q_LD, Q_D1, Q_F0, Q_LF, Q_F1, Q_U0, Q_LU, Q_U1, Q_G0, fun h0_ _ => aF (hoff 38 kr) h0_, fun h0_ => aF (hoff 39 kr) h0_, Q_NFG, Q_NF1, fun h0_ => aF (hoff 39 kr) h0_, fun h0_ _ => aF (hoff 38 kr) h0_, fun _ h1_ _ => aF (hoff 38 kr) h1_⟩
            refine qL ?_ ?_
            ·rintro b a w' ⟨s81, s82, s88, s89, s96, s97, s110, s111, ha, Q_B, Q_P0, Q_P1, Q_P2, Q_P3, Q_P4, Q_M1, Q_LS, Q_D0, Q_LD, Q_D1, Q_F0, Q_LF, Q_F1, Q_U0, Q_LU, Q_U1, Q_G0, Q_LG, Q_G1, Q_NFG, Q_NF1, Q_NF2, Q_NL0, Q_NL1⟩ hb_ hon hoff
             refine ⟨_, rfl, fun K hK => ?_⟩
             have e105 : a.tmps[105]? = some (.slice (some a3) n c3) := by rw [ha]; exact qO (e := (33, 105, .slice (some a3) n c3)) 11 rfl rfl (hon 33 kr) rfl
             have e106 : a.tmps[106]? = some (.int .i64 (i : Int)) := by rw [ha]; exact (qi rfl).trans rfl
             replace ha := aM ha
             have B := aM Q_B
             have P0 := aM (Q_P0 (hoff 42 kr))
             have M1 := aM Q_M1
             have G0 := aM (Q_G0 (hoff 39 kr))
             refine qw (w1 := w') (v := .pointer (some (a3.add i))) (by rfl) rfl ?_ ?_
             ·go_simp
              (try simp only [i64_w])
              try rfl
             refine hK.out _ _ ⟨s81, s82, s88, s89, s96, s97, s110, s111, (by rw [ha.out]; exact qM 12 hb_ rfl rfl rfl), Q_B, Q_P0, fun h0_ _ => aF (hoff 42 kr) h0_, fun h0_ _ => aF (hoff 45 kr) h0_, fun h0_ _ => aF (hoff 48 kr) h0_, fun h0_ => aF (hoff 51 kr) h0_, Q_M1, Q_LS, Q_D0, Q_LD, Q_D1, Q_F0, Q_LF, Q_F1, Q_U0, Q_LU, Q_U1, Q_G0, fun h0_ _ => aF (hoff 38 kr) h0_, fun h0_ => aF (hoff 39 kr) h0_, Q_NFG, Q_NF1, fun h0_ => aF (hoff 39 kr) h0_, fun h0_ _ => aF (hoff 38 kr) h0_, fun _ h1_ _ => aF (hoff 38 kr) h1_⟩
            refine qL ?_ ?_
            ·rintro b a w' ⟨s81, s82, s88, s89, s96, s97, s110, s111, ha, Q_B, Q_P0, Q_P1, Q_P2, Q_P3, Q_P4, Q_M1, Q_LS, Q_D0, Q_LD, Q_D1, Q_F0, Q_LF, Q_F1, Q_U0, Q_LU, Q_U1, Q_G0, Q_LG, Q_G1, Q_NFG, Q_NF1, Q_NF2, Q_NL0, Q_NL1⟩ hb_ hon hoff
             refine ⟨_, rfl, fun K hK => ?_⟩
             have e107 : a.tmps[107]? = some (.pointer (some (a3.add i))) := by rw [ha]; exact qO (e := (35, 107, .pointer (some (a3.add i)))) 12 rfl rfl (hon 35 kr) rfl
             replace ha := aM ha
             have B := aM Q_B
             have P0 := aM (Q_P0 (hoff 42 kr))
             have M1 := aM Q_M1
             have G0 := aM (Q_G0 (hoff 39 kr))
             obtain ⟨ad_, e_, hcell_⟩ := Kd.qqA (Kd.qT G0.out).2.2 (i : Int) HI0.out HINQ.out
             obtain rfl : a3 = ad_ := by injection e_
             rw [HRQ.out, Int.toNat_natCast] at hcell_
             refine qw (w1 := w') (v := .int .i64 p1) (by rfl) rfl ?_ ?_
             ·go_simp
              (try simp only [i64_w])
              try rfl
             refine hK.out _ _ ⟨s81, s82, s88, s89, s96, s97, s110, s111, (by rw [ha.out]; exact qM 13 hb_ rfl rfl rfl), Q_B, Q_P0, fun h0_ _ => aF (hoff 42 kr) h0_, fun h0_ _ => aF (hoff 45 kr) h0_, fun h0_ _ => aF (hoff 48 kr) h0_, fun h0_ => aF (hoff 51 kr) h0_, Q_M1, Q_LS, Q_D0, Q_LD, Q_D1, Q_F0, Q_LF, Q_F1, Q_U0, Q_LU, Q_U1, Q_G0, fun h0_ _ => aF (hoff 38 kr) h0_, fun h0_ => aF (hoff 39 kr) h0_, Q_NFG, Q_NF1, fun h0_ => aF (hoff 39 kr) h0_, fun h0_ _ => aF (hoff 38 kr) h0_, fun _ h1_ _ => aF (hoff 38 kr) h1_⟩
            refine qL ?_ ?_
            ·rintro b a w' ⟨s81, s82, s88, s89, s96, s97, s110, s111, ha, Q_B, Q_P0, Q_P1, Q_P2, Q_P3, Q_P4, Q_M1, Q_LS, Q_D0, Q_LD, Q_D1, Q_F0, Q_LF, Q_F1, Q_U0, Q_LU, Q_U1, Q_G0, Q_LG, Q_G1, Q_NFG, Q_NF1, Q_NF2, Q_NL0, Q_NL1⟩ hb_ hon hoff
             refine ⟨_, rfl, fun K hK => ?_⟩
             have e108 : a.tmps[108]? = some (.int .i64 p1) := by rw [ha]; exact qO (e := (36, 108, .int .i64 p1)) 13 rfl rfl (hon 36 kr) rfl
             replace ha := aM ha
             have B := aM Q_B
             have P0 := aM (Q_P0 (hoff 42 kr))
             have M1 := aM Q_M1
             have G0 := aM (Q_G0 (hoff 39 kr))
             have hw_ := HW1.out
             refine qw (w1 := w') (v := .int .i64 (p1 + 1)) (by rfl) rfl ?_ ?_
             ·go_simp
              (try simp only [i64_w])
              try rfl
             refine hK.out _ _ ⟨s81, s82, s88, s89, s96, s97, s110, s111, (by rw [ha.out]; exact qM 14 hb_ rfl rfl rfl), Q_B, Q_P0, fun h0_ _ => aF (hoff 42 kr) h0_, fun h0_ _ => aF (hoff 45 kr) h0_, fun h0_ _ => aF (hoff 48 kr) h0_, fun h0_ => aF (hoff 51 kr) h0_, Q_M1, Q_LS, Q_D0, Q_LD, Q_D1, Q_F0, Q_LF, Q_F1, Q_U0, Q_LU, Q_U1, Q_G0, fun h0_ _ => aF (hoff 38 kr) h0_, fun h0_ => aF (hoff 39 kr) h0_, Q_NFG, Q_NF1, fun h0_ => aF (hoff 39 kr) h0_, fun h0_ _ => aF (hoff 38 kr) h0_, fun _ h1_ _ => aF (hoff 38 kr) h1_⟩
            refine qL ?_ ?_
            ·rintro b a w' ⟨s81, s82, s88, s89, s96, s97, s110, s111, ha, Q_B, Q_P0, Q_P1, Q_P2, Q_P3, Q_P4, Q_M1, Q_LS, Q_D0, Q_LD, Q_D1, Q_F0, Q_LF, Q_F1, Q_U0, Q_LU, Q_U1, Q_G0, Q_LG, Q_G1, Q_NFG, Q_NF1, Q_NF2, Q_NL0, Q_NL1⟩ hb_ hon hoff
             refine ⟨_, rfl, fun K hK => ?_⟩
             have e109 : a.tmps[109]? = some (.int .i64 (p1 + 1)) := by rw [ha]; exact qO (e := (37, 109, .int .i64 (p1 + 1))) 14 rfl rfl (hon 37 kr) rfl
             replace ha := aM ha
             have B := aM Q_B
             have P0 := aM (Q_P0 (hoff 42 kr))
             have M1 := aM Q_M1
             have G0 := aM (Q_G0 (hoff 39 kr))
             refine Kd.qeA (Kd.int .i64) (w0 := w) w.heap.size 3 (by rfl) (N := 110) rfl (xs := ([(p1 + 1)] : List _)) (inner := [.int .i64 (p1 + 1)]) (ok := fun _ => True) (okp := fun _ => False) ?hr38 ?hp38 (fun _ hk => hk.elim) trivial B.out B.out.size (by simp) ?_
             case hr38 => first | (go_simp; done) | (go_simp; rfl)
             case hp38 => exact Reps.one (show Kd.M (Kd.int .i64) _ _ _ (p1 + 1) [.int .i64 (p1 + 1)] from rfl) (Reps.none _ _)
             intro v_ w1_ hR_ hB_ hg_ hnew_
             refine hK.out _ _ ⟨s81, s82, s88, s89, s96, s97, v_, s111, (by rw [ha.out]; exact qM 15 hb_ rfl rfl rfl), hB_, fun _ => qh P0.out hg_ (by simp), fun h0_ _ => aF (hoff 42 kr) h0_, fun h0_ _ => aF (hoff 45 kr) h0_, fun h0_ _ => aF (hoff 48 kr) h0_, fun h0_ => aF (hoff 51 kr) h0_, M1.out.qUA (hg_.block gm M1.out.lt (by simp)), fun h0_ => qh (Q_LS h0_) hg_ (by simp), fun h0_ => plLit0 (Q_D0 h0_) hg_, fun h0_ h1_ => plLit0 (Q_LD h0_ h1_) hg_, fun h0_ => plLit0 (Q_D1 h0_) hg_, fun h0_ => plLit0 (Q_F0 h0_) hg_, fun h0_ h1_ => plLit0 (Q_LF h0_ h1_) hg_, fun h0_ => plLit0 (Q_F1 h0_) hg_, fun h0_ => plLit0 (Q_U0 h0_) hg_, fun h0_ h1_ => plLit0 (Q_LU h0_ h1_) hg_, fun h0_ => plLit0 (Q_U1 h0_) hg_, fun _ => plLit0 G0.out hg_, fun _ _ => hR_, fun h0_ => aF (hoff 39 kr) h0_, Q_NFG, Q_NF1, fun h0_ => aF (hoff 39 kr) h0_, fun _ h1_ => (qmB hnew_ (Kd.R_lt (Q_F0 h1_))).symm, fun h0_ _ _ => (qmB hnew_ (Kd.R_lt (Q_F1 h0_))).symm⟩
            refine qL ?_ ?_
            ·rintro b a w' ⟨s81, s82, s88, s89, s96, s97, s110, s111, ha, Q_B, Q_P0, Q_P1, Q_P2, Q_P3, Q_P4, Q_M1, Q_LS, Q_D0, Q_LD, Q_D1, Q_F0, Q_LF, Q_F1, Q_U0, Q_LU, Q_U1, Q_G0, Q_LG, Q_G1, Q_NFG, Q_NF1, Q_NF2, Q_NL0, Q_NL1⟩ hb_ hon hoff
             refine ⟨_, rfl, fun K hK => ?_⟩
             have e101 : a.tmps[101]? = some (.slice (some a3) n c3) := by rw [ha]; exact qO (e := (29, 101, .slice (some a3) n c3)) 10 rfl rfl (hon 29 kr) rfl
             have e110 : a.tmps[110]? = some (s110) := by rw [ha]; exact qO (e := (38, 110, s110)) 15 rfl rfl (hon 38 kr) rfl
             replace ha := aM ha
             have B := aM Q_B
             have P0 := aM (Q_P0 (hoff 42 kr))
             have M1 := aM Q_M1
             have D1 := aM (Q_D1 (hon 10 kr))
             have F1 := aM (Q_F1 (hon 17 kr))
             have U1 := aM (Q_U1 (hon 25 kr))
             have G0 := aM (Q_G0 hb_)
             have LG := aM (Q_LG (hon 38 kr) hb_)
             have NF1 := aM (Q_NF1 (hon 17 kr) hb_)
             have NL1 := aM (Q_NL1 (hon 17 kr) (hon 38 kr) hb_)
             obtain ⟨A_, c_, hs_, hle_, HRd_⟩ := OwnRow.reads LG.out.2
             have hbd_ := HBD.out
             refine Kd.qrA (Kd.int .i64) (w0 := w) w.heap.size (by rfl) (.tmp 101) (.tmp 110) 49 3 (.int .i64 0) 8 rfl Tryd.underlying49 rcInfoI rfl (by show 0 < 1; omega) (by omega) (.slice (some a3) n c3) qs [(p1 + 1)] A_ _ c_ (fun _ => True) (fun _ => False) (qjA e101) ((qjA e110).trans hs_) G0.out HRd_ (fun _ _ hk_ => hk_) (fun _ hk => hk.elim) (fun _ _ => trivial) B.out B.out.size (by simp only [List.length_cons, List.length_nil]; omega) ?_
             intro v_ w1_ hR_ hB_ hg_ hat_
             refine hK.out _ _ ⟨s81, s82, s88, s89, s96, s97, s110, v_, (by rw [ha.out]; exact qM 16 hb_ rfl rfl rfl), hB_, fun _ => qh P0.out hg_ (Kd.R_ne G0.out P0.out (by decide)), fun h0_ _ => aF (hoff 42 kr) h0_, fun h0_ _ => aF (hoff 45 kr) h0_, fun h0_ _ => aF (hoff 48 kr) h0_, fun h0_ => aF (hoff 51 kr) h0_, M1.out.qUA (hg_.block gm M1.out.lt (M1.out.ne G0.out)), fun h0_ => aT (hon 10 kr) h0_, fun h0_ => aT (hon 10 kr) h0_, fun _ h1_ => aT (hon 10 kr) h1_, fun _ => Kd.qiA D1.out (Kd.qYA G0.out) (by decide) hg_, fun h0_ => aT (hon 17 kr) h0_, fun _ h1_ => aT (hon 17 kr) h1_, fun _ => Kd.qfC F1.out rfl hg_ (fun k_ hk_ => (NF1.out).symm k_ hk_), fun h0_ => aT (hon 25 kr) h0_, fun _ h1_ => aT (hon 25 kr) h1_, fun _ => Kd.qiA U1.out (Kd.qYA G0.out) (by decide) hg_, fun h0_ => absurd ((qVA b 39).symm.trans h0_) (by decide), fun _ h1_ => absurd ((qVA b 39).symm.trans h1_) (by decide), fun _ => hR_, fun h0_ => aT (hon 17 kr) h0_, fun _ h1_ => absurd ((qVA b 39).symm.trans h1_) (by decide), fun _ => (qGC hat_ (NF1.out).symm (Kd.R_lt F1.out)).symm, fun _ h1_ => aT (hon 17 kr) h1_, fun _ _ h2_ => absurd ((qVA b 39).symm.trans h2_) (by decide)⟩
            refine qL ?_ ?_
            ·rintro b a w' ⟨s81, s82, s88, s89, s96, s97, s110, s111, ha, Q_B, Q_P0, Q_P1, Q_P2, Q_P3, Q_P4, Q_M1, Q_LS, Q_D0, Q_LD, Q_D1, Q_F0, Q_LF, Q_F1, Q_U0, Q_LU, Q_U1, Q_G0, Q_LG, Q_G1, Q_NFG, Q_NF1, Q_NF2, Q_NL0, Q_NL1⟩ hb_ hon hoff
             refine ⟨_, rfl, fun K hK => ?_⟩
             have e72 : a.tmps[72]? = some (.pointer (some ⟨gp, 0, none⟩)) := by rw [ha]; exact (qi rfl).trans rfl
             replace ha := aM ha
             have B := aM Q_B
             have P0 := aM (Q_P0 (hoff 42 kr))
             have M1 := aM Q_M1
             have D1 := aM (Q_D1 (hon 10 kr))
             have F1 := aM (Q_F1 (hon 17 kr))
             have U1 := aM (Q_U1 (hon 25 kr))
             have G1 := aM (Q_G1 (hon 39 kr))
             have NF2 := aM (Q_NF2 (hon 39 kr))
             refine qw (w1 := w') (v := .pointer (some ⟨gp, 0, none⟩)) (by rfl) rfl ?_ ?_
             ·go_simp
              (try simp only [i64_w])
              try rfl
             refine hK.out _ _ ⟨s81, s82, s88, s89, s96, s97, s110, s111, (by rw [ha.out]; exact qM 17 hb_ rfl rfl rfl), Q_B, Q_P0, fun h0_ _ => aF (hoff 42 kr) h0_, fun h0_ _ => aF (hoff 45 kr) h0_, fun h0_ _ => aF (hoff 48 kr) h0_, fun h0_ => aF (hoff 51 kr) h0_, Q_M1, fun h0_ => aT (hon 10 kr) h0_, fun h0_ => aT (hon 10 kr) h0_, fun _ h1_ => aT (hon 10 kr) h1_, Q_D1, fun h0_ => aT (hon 17 kr) h0_, fun _ h1_ => aT (hon 17 kr) h1_, Q_F1, fun h0_ => aT (hon 25 kr) h0_, fun _ h1_ => aT (hon 25 kr) h1_, Q_U1, fun h0_ => aT (hon 39 kr) h0_, fun _ h1_ => aT (hon 39 kr) h1_, Q_G1, fun h0_ => aT (hon 17 kr) h0_, fun _ h1_ => aT (hon 39 kr) h1_, Q_NF2, fun _ h1_ => aT (hon 17 kr) h1_, fun _ _ h2_ => aT (hon 39 kr) h2_⟩
            refine qL ?_ ?_
            ·rintro b a w' ⟨s81, s82, s88, s89, s96, s97, s110, s111, ha, Q_B, Q_P0, Q_P1, Q_P2, Q_P3, Q_P4, Q_M1, Q_LS, Q_D0, Q_LD, Q_D1, Q_F0, Q_LF, Q_F1, Q_U0, Q_LU, Q_U1, Q_G0, Q_LG, Q_G1, Q_NFG, Q_NF1, Q_NF2, Q_NL0, Q_NL1⟩ hb_ hon hoff
             refine ⟨_, rfl, fun K hK => ?_⟩
             have e112 : a.tmps[112]? = some (.pointer (some ⟨gp, 0, none⟩)) := by rw [ha]; exact qO (e := (40, 112, .pointer (some ⟨gp, 0, none⟩))) 17 rfl rfl (hon 40 kr) rfl
             replace ha := aM ha
             have B := aM Q_B
             have P0 := aM (Q_P0 (hoff 42 kr))
             have M1 := aM Q_M1
             have D1 := aM (Q_D1 (hon 10 kr))
             have F1 := aM (Q_F1 (hon 17 kr))
             have U1 := aM (Q_U1 (hon 25 kr))
             have G1 := aM (Q_G1 (hon 39 kr))
             have NF2 := aM (Q_NF2 (hon 39 kr))
             refine qw (w1 := w') (v := .pointer (some ⟨gp, 0, none⟩)) (by rfl) rfl ?_ ?_
             ·go_simp
              (try simp only [i64_w])
              try rfl
             refine hK.out _ _ ⟨s81, s82, s88, s89, s96, s97, s110, s111, (by rw [ha.out]; exact qM 18 hb_ rfl rfl rfl), Q_B, Q_P0, fun h0_ _ => aF (hoff 42 kr) h0_, fun h0_ _ => aF (hoff 45 kr) h0_, fun h0_ _ => aF (hoff 48 kr) h0_, fun h0_ => aF (hoff 51 kr) h0_, Q_M1, fun h0_ => aT (hon 10 kr) h0_, fun h0_ => aT (hon 10 kr) h0_, fun _ h1_ => aT (hon 10 kr) h1_, Q_D1, fun h0_ => aT (hon 17 kr) h0_, fun _ h1_ => aT (hon 17 kr) h1_, Q_F1, fun h0_ => aT (hon 25 kr) h0_, fun _ h1_ => aT (hon 25 kr) h1_, Q_U1, fun h0_ => aT (hon 39 kr) h0_, fun _ h1_ => aT (hon 39 kr) h1_, Q_G1, fun h0_ => aT (hon 17 kr) h0_, fun _ h1_ => aT (hon 39 kr) h1_, Q_NF2, fun _ h1_ => aT (hon 17 kr) h1_, fun _ _ h2_ => aT (hon 39 kr) h2_⟩
            refine qL ?_ ?_
            ·rintro b a w' ⟨s81, s82, s88, s89, s96, s97, s110, s111, ha, Q_B, Q_P0, Q_P1, Q_P2, Q_P3, Q_P4, Q_M1, Q_LS, Q_D0, Q_LD, Q_D1, Q_F0, Q_LF, Q_F1, Q_U0, Q_LU, Q_U1, Q_G0, Q_LG, Q_G1, Q_NFG, Q_NF1, Q_NF2, Q_NL0, Q_NL1⟩ hb_ hon hoff
             refine ⟨_, rfl, fun K hK => ?_⟩
             have e113 : a.tmps[113]? = some (.pointer (some ⟨gp, 0, none⟩)) := by rw [ha]; exact qO (e := (41, 113, .pointer (some ⟨gp, 0, none⟩))) 18 rfl rfl (hon 41 kr) rfl
             have e82 : a.tmps[82]? = some (s82) := by rw [ha]; exact qO (e := (10, 82, s82)) 3 rfl rfl (hon 10 kr) rfl
             replace ha := aM ha
             have B := aM Q_B
             have P0 := aM (Q_P0 hb_)
             have M1 := aM Q_M1
             have D1 := aM (Q_D1 (hon 10 kr))
             have F1 := aM (Q_F1 (hon 17 kr))
             have U1 := aM (Q_U1 (hon 25 kr))
             have G1 := aM (Q_G1 (hon 39 kr))
             have NF2 := aM (Q_NF2 (hon 39 kr))
             obtain ⟨A_, c_, hs_⟩ := Kd.qx D1.out
             have hc_ : w'.cell? ⟨gp, 0, none⟩ = some (.slice (some ad) n cd) := (qD P0.out 0).trans rfl
             have hf_ : w'.frozen? ⟨gp, 0, none⟩ = false := qQ P0.out 0
             refine skip_ (w1 := w'.setCell ⟨gp, 0, none⟩ s82) (by rfl) rfl ?hr42 ?_
             case hr42 =>
              rw [hs_] at e82
              rw [hs_]
              first | (go_simp; done) | (go_simp; rfl)
             refine hK.out _ _ ⟨s81, s82, s88, s89, s96, s97, s110, s111, (by rw [ha.out]; exact qvA (v := undef) rfl), qGA B.out HGP.out, fun h0_ => absurd ((qVA b 42).symm.trans h0_) (by decide), fun _ _ => qb P0.out 0 _ rfl, fun h0_ _ => aF (hoff 45 kr) h0_, fun h0_ _ => aF (hoff 48 kr) h0_, fun h0_ => aF (hoff 51 kr) h0_, M1.out.setCell HNE.out _, fun h0_ => aT (hon 10 kr) h0_, fun h0_ => aT (hon 10 kr) h0_, fun _ h1_ => aT (hon 10 kr) h1_, fun _ => Kd.R_set D1.out P0.out (by decide) _ _, fun h0_ => aT (hon 17 kr) h0_, fun _ h1_ => aT (hon 17 kr) h1_, fun _ => Kd.R_set F1.out P0.out (by decide) _ _, fun h0_ => aT (hon 25 kr) h0_, fun _ h1_ => aT (hon 25 kr) h1_, fun _ => Kd.R_set U1.out P0.out (by decide) _ _, fun h0_ => aT (hon 39 kr) h0_, fun _ h1_ => aT (hon 39 kr) h1_, fun _ => Kd.R_set G1.out P0.out (by decide) _ _, fun h0_ => aT (hon 17 kr) h0_, fun _ h1_ => aT (hon 39 kr) h1_, Q_NF2, fun _ h1_ => aT (hon 17 kr) h1_, fun _ _ h2_ => aT (hon 39 kr) h2_⟩
            refine qL ?_ ?_
            ·rintro b a w' ⟨s81, s82, s88, s89, s96, s97, s110, s111, ha, Q_B, Q_P0, Q_P1, Q_P2, Q_P3, Q_P4, Q_M1, Q_LS, Q_D0, Q_LD, Q_D1, Q_F0, Q_LF, Q_F1, Q_U0, Q_LU, Q_U1, Q_G0, Q_LG, Q_G1, Q_NFG, Q_NF1, Q_NF2, Q_NL0, Q_NL1⟩ hb_ hon hoff
             refine ⟨_, rfl, fun K hK => ?_⟩
             have e73 : a.tmps[73]? = some (.pointer (some ⟨gp, 0, none⟩)) := by rw [ha]; exact (qi rfl).trans rfl
             replace ha := aM ha
             have B := aM Q_B
             have P1 := aM (Q_P1 (hon 42 kr) (hoff 45 kr))
             have M1 := aM Q_M1
             have D1 := aM (Q_D1 (hon 10 kr))
             have F1 := aM (Q_F1 (hon 17 kr))
             have U1 := aM (Q_U1 (hon 25 kr))
             have G1 := aM (Q_G1 (hon 39 kr))
             have NF2 := aM (Q_NF2 (hon 39 kr))
             refine qw (w1 := w') (v := .pointer (some ⟨gp, 0, none⟩)) (by rfl) rfl ?_ ?_
             ·go_simp
              (try simp only [i64_w])
              try rfl
             refine hK.out _ _ ⟨s81, s82, s88, s89, s96, s97, s110, s111, (by rw [ha.out]; exact qM 19 hb_ rfl rfl rfl), Q_B, fun h0_ => aT (hon 42 kr) h0_, Q_P1, fun h0_ _ => aF (hoff 45 kr) h0_, fun h0_ _ => aF (hoff 48 kr) h0_, fun h0_ => aF (hoff 51 kr) h0_, Q_M1, fun h0_ => aT (hon 10 kr) h0_, fun h0_ => aT (hon 10 kr) h0_, fun _ h1_ => aT (hon 10 kr) h1_, Q_D1, fun h0_ => aT (hon 17 kr) h0_, fun _ h1_ => aT (hon 17 kr) h1_, Q_F1, fun h0_ => aT (hon 25 kr) h0_, fun _ h1_ => aT (hon 25 kr) h1_, Q_U1, fun h0_ => aT (hon 39 kr) h0_, fun _ h1_ => aT (hon 39 kr) h1_, Q_G1, fun h0_ => aT (hon 17 kr) h0_, fun _ h1_ => aT (hon 39 kr) h1_, Q_NF2, fun _ h1_ => aT (hon 17 kr) h1_, fun _ _ h2_ => aT (hon 39 kr) h2_⟩
            refine qL ?_ ?_
            ·rintro b a w' ⟨s81, s82, s88, s89, s96, s97, s110, s111, ha, Q_B, Q_P0, Q_P1, Q_P2, Q_P3, Q_P4, Q_M1, Q_LS, Q_D0, Q_LD, Q_D1, Q_F0, Q_LF, Q_F1, Q_U0, Q_LU, Q_U1, Q_G0, Q_LG, Q_G1, Q_NFG, Q_NF1, Q_NF2, Q_NL0, Q_NL1⟩ hb_ hon hoff
             refine ⟨_, rfl, fun K hK => ?_⟩
             have e114 : a.tmps[114]? = some (.pointer (some ⟨gp, 0, none⟩)) := by rw [ha]; exact qO (e := (43, 114, .pointer (some ⟨gp, 0, none⟩))) 19 rfl rfl (hon 43 kr) rfl
             replace ha := aM ha
             have B := aM Q_B
             have P1 := aM (Q_P1 (hon 42 kr) (hoff 45 kr))
             have M1 := aM Q_M1
             have D1 := aM (Q_D1 (hon 10 kr))
             have F1 := aM (Q_F1 (hon 17 kr))
             have U1 := aM (Q_U1 (hon 25 kr))
             have G1 := aM (Q_G1 (hon 39 kr))
             have NF2 := aM (Q_NF2 (hon 39 kr))
             refine qw (w1 := w') (v := .pointer (some ⟨gp, 1, none⟩)) (by rfl) rfl ?_ ?_
             ·go_simp
              (try simp only [i64_w])
              try rfl
             refine hK.out _ _ ⟨s81, s82, s88, s89, s96, s97, s110, s111, (by rw [ha.out]; exact qM 20 hb_ rfl rfl rfl), Q_B, fun h0_ => aT (hon 42 kr) h0_, Q_P1, fun h0_ _ => aF (hoff 45 kr) h0_, fun h0_ _ => aF (hoff 48 kr) h0_, fun h0_ => aF (hoff 51 kr) h0_, Q_M1, fun h0_ => aT (hon 10 kr) h0_, fun h0_ => aT (hon 10 kr) h0_, fun _ h1_ => aT (hon 10 kr) h1_, Q_D1, fun h0_ => aT (hon 17 kr) h0_, fun _ h1_ => aT (hon 17 kr) h1_, Q_F1, fun h0_ => aT (hon 25 kr) h0_, fun _ h1_ => aT (hon 25 kr) h1_, Q_U1, fun h0_ => aT (hon 39 kr) h0_, fun _ h1_ => aT (hon 39 kr) h1_, Q_G1, fun h0_ => aT (hon 17 kr) h0_, fun _ h1_ => aT (hon 39 kr) h1_, Q_NF2, fun _ h1_ => aT (hon 17 kr) h1_, fun _ _ h2_ => aT (hon 39 kr) h2_⟩
            refine qL ?_ ?_
            ·rintro b a w' ⟨s81, s82, s88, s89, s96, s97, s110, s111, ha, Q_B, Q_P0, Q_P1, Q_P2, Q_P3, Q_P4, Q_M1, Q_LS, Q_D0, Q_LD, Q_D1, Q_F0, Q_LF, Q_F1, Q_U0, Q_LU, Q_U1, Q_G0, Q_LG, Q_G1, Q_NFG, Q_NF1, Q_NF2, Q_NL0, Q_NL1⟩ hb_ hon hoff
             refine ⟨_, rfl, fun K hK => ?_⟩
             have e115 : a.tmps[115]? = some (.pointer (some ⟨gp, 1, none⟩)) := by rw [ha]; exact qO (e := (44, 115, .pointer (some ⟨gp, 1, none⟩))) 20 rfl rfl (hon 44 kr) rfl
             have e89 : a.tmps[89]? = some (s89) := by rw [ha]; exact qO (e := (17, 89, s89)) 6 rfl rfl (hon 17 kr) rfl
             replace ha := aM ha
             have B := aM Q_B
             have P1 := aM (Q_P1 (hon 42 kr) hb_)
             have M1 := aM Q_M1
             have D1 := aM (Q_D1 (hon 10 kr))
             have F1 := aM (Q_F1 (hon 17 kr))
             have U1 := aM (Q_U1 (hon 25 kr))
             have G1 := aM (Q_G1 (hon 39 kr))
             have NF2 := aM (Q_NF2 (hon 39 kr))
             obtain ⟨A_, c_, hs_⟩ := Kd.qx F1.out
             have hc_ : w'.cell? ⟨gp, 1, none⟩ = some (v1) := (qD P1.out 1).trans rfl
             have hf_ : w'.frozen? ⟨gp, 1, none⟩ = false := qQ P1.out 1
             refine skip_ (w1 := w'.setCell ⟨gp, 1, none⟩ s89) (by rfl) rfl ?hr45 ?_
             case hr45 =>
              rw [hs_] at e89
              rw [hs_]
              first | (go_simp; done) | (go_simp; rfl)
             refine hK.out _ _ ⟨s81, s82, s88, s89, s96, s97, s110, s111, (by rw [ha.out]; exact qvA (v := undef) rfl), qGA B.out HGP.out, fun h0_ => aT (hon 42 kr) h0_, fun _ h1_ => absurd ((qVA b 45).symm.trans h1_) (by decide), fun _ _ => qb P1.out 1 _ rfl, fun h0_ _ => aF (hoff 48 kr) h0_, fun h0_ => aF (hoff 51 kr) h0_, M1.out.setCell HNE.out _, fun h0_ => aT (hon 10 kr) h0_, fun h0_ => aT (hon 10 kr) h0_, fun _ h1_ => aT (hon 10 kr) h1_, fun _ => Kd.R_set D1.out P1.out (by decide) _ _, fun h0_ => aT (hon 17 kr) h0_, fun _ h1_ => aT (hon 17 kr) h1_, fun _ => Kd.R_set F1.out P1.out (by decide) _ _, fun h0_ => aT (hon 25 kr) h0_, fun _ h1_ => aT (hon 25 kr) h1_, fun _ => Kd.R_set U1.out P1.out (by decide) _ _, fun h0_ => aT (hon 39 kr) h0_, fun _ h1_ => aT (hon 39 kr) h1_, fun _ => Kd.R_set G1.out P1.out (by decide) _ _, fun h0_ => aT (hon 17 kr) h0_, fun _ h1_ => aT (hon 39 kr) h1_, Q_NF2, fun _ h1_ => aT (hon 17 kr) h1_, fun _ _ h2_ => aT (hon 39 kr) h2_⟩
            refine qL ?_ ?_
            ·rintro b a w' ⟨s81, s82, s88, s89, s96, s97, s110, s111, ha, Q_B, Q_P0, Q_P1, Q_P2, Q_P3, Q_P4, Q_M1, Q_LS, Q_D0, Q_LD, Q_D1, Q_F0, Q_LF, Q_F1, Q_U0, Q_LU, Q_U1, Q_G0, Q_LG, Q_G1, Q_NFG, Q_NF1, Q_NF2, Q_NL0, Q_NL1⟩ hb_ hon hoff
             refine ⟨_, rfl, fun K hK => ?_⟩
             have e74 : a.tmps[74]? = some (.pointer (some ⟨gp, 0, none⟩)) := by rw [ha]; exact (qi rfl).trans rfl
             replace ha := aM ha
             have B := aM Q_B
             have P2 := aM (Q_P2 (hon 45 kr) (hoff 48 kr))
             have M1 := aM Q_M1
             have D1 := aM (Q_D1 (hon 10 kr))
             have F1 := aM (Q_F1 (hon 17 kr))
             have U1 := aM (Q_U1 (hon 25 kr))
             have G1 := aM (Q_G1 (hon 39 kr))
             have NF2 := aM (Q_NF2 (hon 39 kr))
             refine qw (w1 := w') (v := .pointer (some ⟨gp, 0, none⟩)) (by rfl) rfl ?_ ?_
             ·go_simp
              (try simp only [i64_w])
              try rfl
             refine hK.out _ _ ⟨s81, s82, s88, s89, s96, s97, s110, s111, (by rw [ha.out]; exact qM 21 hb_ rfl rfl rfl), Q_B, fun h0_ => aT (hon 42 kr) h0_, fun _ h1_ => aT (hon 45 kr) h1_, Q_P2, fun h0_ _ => aF (hoff 48 kr) h0_, fun h0_ => aF (hoff 51 kr) h0_, Q_M1, fun h0_ => aT (hon 10 kr) h0_, fun h0_ => aT (hon 10 kr) h0_, fun _ h1_ => aT (hon 10 kr) h1_, Q_D1, fun h0_ => aT (hon 17 kr) h0_, fun _ h1_ => aT (hon 17 kr) h1_, Q_F1, fun h0_ => aT (hon 25 kr) h0_, fun _ h1_ => aT (hon 25 kr) h1_, Q_U1, fun h0_ => aT (hon 39 kr) h0_, fun _ h1_ => aT (hon 39 kr) h1_, Q_G1, fun h0_ => aT (hon 17 kr) h0_, fun _ h1_ => aT (hon 39 kr) h1_, Q_NF2, fun _ h1_ => aT (hon 17 kr) h1_, fun _ _ h2_ => aT (hon 39 kr) h2_⟩
            refine qL ?_ ?_
            ·rintro b a w' ⟨s81, s82, s88, s89, s96, s97, s110, s111, ha, Q_B, Q_P0, Q_P1, Q_P2, Q_P3, Q_P4, Q_M1, Q_LS, Q_D0, Q_LD, Q_D1, Q_F0, Q_LF, Q_F1, Q_U0, Q_LU, Q_U1, Q_G0, Q_LG, Q_G1, Q_NFG, Q_NF1, Q_NF2, Q_NL0, Q_NL1⟩ hb_ hon hoff
             refine ⟨_, rfl, fun K hK => ?_⟩
             have e116 : a.tmps[116]? = some (.pointer (some ⟨gp, 0, none⟩)) := by rw [ha]; exact qO (e := (46, 116, .pointer (some ⟨gp, 0, none⟩))) 21 rfl rfl (hon 46 kr) rfl
             replace ha := aM ha
             have B := aM Q_B
             have P2 := aM (Q_P2 (hon 45 kr) (hoff 48 kr))
             have M1 := aM Q_M1
             have D1 := aM (Q_D1 (hon 10 kr))
             have F1 := aM (Q_F1 (hon 17 kr))
             have U1 := aM (Q_U1 (hon 25 kr))
             have G1 := aM (Q_G1 (hon 39 kr))
             have NF2 := aM (Q_NF2 (hon 39 kr))
             refine qw (w1 := w') (v := .pointer (some ⟨gp, 2, none⟩)) (by rfl) rfl ?_ ?_
             ·go_simp
              (try simp only [i64_w])
              try rfl
             refine hK.out _ _ ⟨s81, s82, s88, s89, s96, s97, s110, s111, (by rw [ha.out]; exact qM 22 hb_ rfl rfl rfl), Q_B, fun h0_ => aT (hon 42 kr) h0_, fun _ h1_ => aT (hon 45 kr) h1_, Q_P2, fun h0_ _ => aF (hoff 48 kr) h0_, fun h0_ => aF (hoff 51 kr) h0_, Q_M1, fun h0_ => aT (hon 10 kr) h0_, fun h0_ => aT (hon 10 kr) h0_, fun _ h1_ => aT (hon 10 kr) h1_, Q_D1, fun h0_ => aT (hon 17 kr) h0_, fun _ h1_ => aT (hon 17 kr) h1_, Q_F1, fun h0_ => aT (hon 25 kr) h0_, fun _ h1_ => aT (hon 25 kr) h1_, Q_U1, fun h0_ => aT (hon 39 kr) h0_, fun _ h1_ => aT (hon 39 kr) h1_, Q_G1, fun h0_ => aT (hon 17 kr) h0_, fun _ h1_ => aT (hon 39 kr) h1_, Q_NF2, fun _ h1_ => aT (hon 17 kr) h1_, fun _ _ h2_ => aT (hon 39 kr) h2_⟩
            refine qL ?_ ?_
            ·rintro b a w' ⟨s81, s82, s88, s89, s96, s97, s110, s111, ha, Q_B, Q_P0, Q_P1, Q_P2, Q_P3, Q_P4, Q_M1, Q_LS, Q_D0, Q_LD, Q_D1, Q_F0, Q_LF, Q_F1, Q_U0, Q_LU, Q_U1, Q_G0, Q_LG, Q_G1, Q_NFG, Q_NF1, Q_NF2, Q_NL0, Q_NL1⟩ hb_ hon hoff
             refine ⟨_, rfl, fun K hK => ?_⟩
             have e117 : a.tmps[117]? = some (.pointer (some ⟨gp, 2, none⟩)) := by rw [ha]; exact qO (e := (47, 117, .pointer (some ⟨gp, 2, none⟩))) 22 rfl rfl (hon 47 kr) rfl
             have e97 : a.tmps[97]? = some (s97) := by rw [ha]; exact qO (e := (25, 97, s97)) 9 rfl rfl (hon 25 kr) rfl
             replace ha := aM ha
             have B := aM Q_B
             have P2 := aM (Q_P2 (hon 45 kr) hb_)
             have M1 := aM Q_M1
             have D1 := aM (Q_D1 (hon 10 kr))
             have F1 := aM (Q_F1 (hon 17 kr))
             have U1 := aM (Q_U1 (hon 25 kr))
             have G1 := aM (Q_G1 (hon 39 kr))
             have NF2 := aM (Q_NF2 (hon 39 kr))
             obtain ⟨A_, c_, hs_⟩ := Kd.qx U1.out
             have hc_ : w'.cell? ⟨gp, 2, none⟩ = some (v2) := (qD P2.out 2).trans rfl
             have hf_ : w'.frozen? ⟨gp, 2, none⟩ = false := qQ P2.out 2
             refine skip_ (w1 := w'.setCell ⟨gp, 2, none⟩ s97) (by rfl) rfl ?hr48 ?_
             case hr48 =>
              rw [hs_] at e97
              rw [hs_]
              first | (go_simp; done) | (go_simp; rfl)
             refine hK.out _ _ ⟨s81, s82, s88, s89, s96, s97, s110, s111, (by rw [ha.out]; exact qvA (v := undef) rfl), qGA B.out HGP.out, fun h0_ => aT (hon 42 kr) h0_, fun _ h1_ => aT (hon 45 kr) h1_, fun _ h1_ => absurd ((qVA b 48).symm.trans h1_) (by decide), fun _ _ => qb P2.out 2 _ rfl, fun h0_ => aF (hoff 51 kr) h0_, M1.out.setCell HNE.out _, fun h0_ => aT (hon 10 kr) h0_, fun h0_ => aT (hon 10 kr) h0_, fun _ h1_ => aT (hon 10 kr) h1_, fun _ => Kd.R_set D1.out P2.out (by decide) _ _, fun h0_ => aT (hon 17 kr) h0_, fun _ h1_ => aT (hon 17 kr) h1_, fun _ => Kd.R_set F1.out P2.out (by decide) _ _, fun h0_ => aT (hon 25 kr) h0_, fun _ h1_ => aT (hon 25 kr) h1_, fun _ => Kd.R_set U1.out P2.out (by decide) _ _, fun h0_ => aT (hon 39 kr) h0_, fun _ h1_ => aT (hon 39 kr) h1_, fun _ => Kd.R_set G1.out P2.out (by decide) _ _, fun h0_ => aT (hon 17 kr) h0_, fun _ h1_ => aT (hon 39 kr) h1_, Q_NF2, fun _ h1_ => aT (hon 17 kr) h1_, fun _ _ h2_ => aT (hon 39 kr) h2_⟩
            refine qL ?_ ?_
            ·rintro b a w' ⟨s81, s82, s88, s89, s96, s97, s110, s111, ha, Q_B, Q_P0, Q_P1, Q_P2, Q_P3, Q_P4, Q_M1, Q_LS, Q_D0, Q_LD, Q_D1, Q_F0, Q_LF, Q_F1, Q_U0, Q_LU, Q_U1, Q_G0, Q_LG, Q_G1, Q_NFG, Q_NF1, Q_NF2, Q_NL0, Q_NL1⟩ hb_ hon hoff
             refine ⟨_, rfl, fun K hK => ?_⟩
             have e75 : a.tmps[75]? = some (.pointer (some ⟨gp, 0, none⟩)) := by rw [ha]; exact (qi rfl).trans rfl
             replace ha := aM ha
             have B := aM Q_B
             have P3 := aM (Q_P3 (hon 48 kr) (hoff 51 kr))
             have M1 := aM Q_M1
             have D1 := aM (Q_D1 (hon 10 kr))
             have F1 := aM (Q_F1 (hon 17 kr))
             have U1 := aM (Q_U1 (hon 25 kr))
             have G1 := aM (Q_G1 (hon 39 kr))
             have NF2 := aM (Q_NF2 (hon 39 kr))
             refine qw (w1 := w') (v := .pointer (some ⟨gp, 0, none⟩)) (by rfl) rfl ?_ ?_
             ·go_simp
              (try simp only [i64_w])
              try rfl
             refine hK.out _ _ ⟨s81, s82, s88, s89, s96, s97, s110, s111, (by rw [ha.out]; exact qM 23 hb_ rfl rfl rfl), Q_B, fun h0_ => aT (hon 42 kr) h0_, fun _ h1_ => aT (hon 45 kr) h1_, fun _ h1_ => aT (hon 48 kr) h1_, Q_P3, fun h0_ => aF (hoff 51 kr) h0_, Q_M1, fun h0_ => aT (hon 10 kr) h0_, fun h0_ => aT (hon 10 kr) h0_, fun _ h1_ => aT (hon 10 kr) h1_, Q_D1, fun h0_ => aT (hon 17 kr) h0_, fun _ h1_ => aT (hon 17 kr) h1_, Q_F1, fun h0_ => aT (hon 25 kr) h0_, fun _ h1_ => aT (hon 25 kr) h1_, Q_U1, fun h0_ => aT (hon 39 kr) h0_, fun _ h1_ => aT (hon 39 kr) h1_, Q_G1, fun h0_ => aT (hon 17 kr) h0_, fun _ h1_ => aT (hon 39 kr) h1_, Q_NF2, fun _ h1_ => aT (hon 17 kr) h1_, fun _ _ h2_ => aT (hon 39 kr) h2_⟩
            refine qL ?_ ?_
            ·rintro b a w' ⟨s81, s82, s88, s89, s96, s97, s110, s111, ha, Q_B, Q_P0, Q_P1, Q_P2, Q_P3, Q_P4, Q_M1, Q_LS, Q_D0, Q_LD, Q_D1, Q_F0, Q_LF, Q_F1, Q_U0, Q_LU, Q_U1, Q_G0, Q_LG, Q_G1, Q_NFG, Q_NF1, Q_NF2, Q_NL0, Q_NL1⟩ hb_ hon hoff
             refine ⟨_, rfl, fun K hK => ?_⟩
             have e118 : a.tmps[118]? = some (.pointer (some ⟨gp, 0, none⟩)) := by rw [ha]; exact qO (e := (49, 118, .pointer (some ⟨gp, 0, none⟩))) 23 rfl rfl (hon 49 kr) rfl
             replace ha := aM ha
             have B := aM Q_B
             have P3 := aM (Q_P3 (hon 48 kr) (hoff 51 kr))
             have M1 := aM Q_M1
             have D1 := aM (Q_D1 (hon 10 kr))
             have F1 := aM (Q_F1 (hon 17 kr))
             have U1 := aM (Q_U1 (hon 25 kr))
             have G1 := aM (Q_G1 (hon 39 kr))
             have NF2 := aM (Q_NF2 (hon 39 kr))
             refine qw (w1 := w') (v := .pointer (some ⟨gp, 3, none⟩)) (by rfl) rfl ?_ ?_
             ·go_simp
              (try simp only [i64_w])
              try rfl
             refine hK.out _ _ ⟨s81, s82, s88, s89, s96, s97, s110, s111, (by rw [ha.out]; exact qM 24 hb_ rfl rfl rfl), Q_B, fun h0_ => aT (hon 42 kr) h0_, fun _ h1_ => aT (hon 45 kr) h1_, fun _ h1_ => aT (hon 48 kr) h1_, Q_P3, fun h0_ => aF (hoff 51 kr) h0_, Q_M1, fun h0_ => aT (hon 10 kr) h0_, fun h0_ => aT (hon 10 kr) h0_, fun _ h1_ => aT (hon 10 kr) h1_, Q_D1, fun h0_ => aT (hon 17 kr) h0_, fun _ h1_ => aT (hon 17 kr) h1_, Q_F1, fun h0_ => aT (hon 25 kr) h0_, fun _ h1_ => aT (hon 25 kr) h1_, Q_U1, fun h0_ => aT (hon 39 kr) h0_, fun _ h1_ => aT (hon 39 kr) h1_, Q_G1, fun h0_ => aT (hon 17 kr) h0_, fun _ h1_ => aT (hon 39 kr) h1_, Q_NF2, fun _ h1_ => aT (hon 17 kr) h1_, fun _ _ h2_ => aT (hon 39 kr) h2_⟩
            refine qL ?_ ?_
            ·rintro b a w' ⟨s81, s82, s88, s89, s96, s97, s110, s111, ha, Q_B, Q_P0, Q_P1, Q_P2, Q_P3, Q_P4, Q_M1, Q_LS, Q_D0, Q_LD, Q_D1, Q_F0, Q_LF, Q_F1, Q_U0, Q_LU, Q_U1, Q_G0, Q_LG, Q_G1, Q_NFG, Q_NF1, Q_NF2, Q_NL0, Q_NL1⟩ hb_ hon hoff
             refine ⟨_, rfl, fun K hK => ?_⟩
             have e119 : a.tmps[119]? = some (.pointer (some ⟨gp, 3, none⟩)) := by rw [ha]; exact qO (e := (50, 119, .pointer (some ⟨gp, 3, none⟩))) 24 rfl rfl (hon 50 kr) rfl
             have e111 : a.tmps[111]? = some (s111) := by rw [ha]; exact qO (e := (39, 111, s111)) 16 rfl rfl (hon 39 kr) rfl
             replace ha := aM ha
             have B := aM Q_B
             have P3 := aM (Q_P3 (hon 48 kr) hb_)
             have M1 := aM Q_M1
             have D1 := aM (Q_D1 (hon 10 kr))
             have F1 := aM (Q_F1 (hon 17 kr))
             have U1 := aM (Q_U1 (hon 25 kr))
             have G1 := aM (Q_G1 (hon 39 kr))
             have NF2 := aM (Q_NF2 (hon 39 kr))
             obtain ⟨A_, c_, hs_⟩ := Kd.qx G1.out
             have hc_ : w'.cell? ⟨gp, 3, none⟩ = some (.slice (some a3) n c3) := (qD P3.out 3).trans rfl
             have hf_ : w'.frozen? ⟨gp, 3, none⟩ = false := qQ P3.out 3
             refine skip_ (w1 := w'.setCell ⟨gp, 3, none⟩ s111) (by rfl) rfl ?hr51 ?_
             case hr51 =>
              rw [hs_] at e111
              rw [hs_]
              first | (go_simp; done) | (go_simp; rfl)
             refine hK.out _ _ ⟨s81, s82, s88, s89, s96, s97, s110, s111, (by rw [ha.out]; exact qvA (v := undef) rfl), qGA B.out HGP.out, fun h0_ => aT (hon 42 kr) h0_, fun _ h1_ => aT (hon 45 kr) h1_, fun _ h1_ => aT (hon 48 kr) h1_, fun _ h1_ => absurd ((qVA b 51).symm.trans h1_) (by decide), fun _ => qb P3.out 3 _ rfl, M1.out.setCell HNE.out _, fun h0_ => aT (hon 10 kr) h0_, fun h0_ => aT (hon 10 kr) h0_, fun _ h1_ => aT (hon 10 kr) h1_, fun _ => Kd.R_set D1.out P3.out (by decide) _ _, fun h0_ => aT (hon 17 kr) h0_, fun _ h1_ => aT (hon 17 kr) h1_, fun _ => Kd.R_set F1.out P3.out (by decide) _ _, fun h0_ => aT (hon 25 kr) h0_, fun _ h1_ => aT (hon 25 kr) h1_, fun _ => Kd.R_set U1.out P3.out (by decide) _ _, fun h0_ => aT (hon 39 kr) h0_, fun _ h1_ => aT (hon 39 kr) h1_, fun _ => Kd.R_set G1.out P3.out (by decide) _ _, fun h0_ => aT (hon 17 kr) h0_, fun _ h1_ => aT (hon 39 kr) h1_, Q_NF2, fun _ h1_ => aT (hon 17 kr) h1_, fun _ _ h2_ => aT (hon 39 kr) h2_⟩
            exact qSB
           ·rintro b a w' hall ⟨s81, s82, s88, s89, s96, s97, s110, s111, ha, Q_B, Q_P0, Q_P1, Q_P2, Q_P3, Q_P4, Q_M1, Q_LS, Q_D0, Q_LD, Q_D1, Q_F0, Q_LF, Q_F1, Q_U0, Q_LU, Q_U1, Q_G0, Q_LG, Q_G1, Q_NFG, Q_NF1, Q_NF2, Q_NL0, Q_NL1⟩
            clear B D0 F0 G0 LS M1 NFG P0 U0
            have hb7_ := hall 7 (by kernel_rfl)
            have hb8_ := hall 8 (by kernel_rfl)
            have hb9_ := hall 9 (by kernel_rfl)
            have hb10_ := hall 10 (by kernel_rfl)
            have hb14_ := hall 14 (by kernel_rfl)
            have hb16_ := hall 16 (by kernel_rfl)
            have hb17_ := hall 17 (by kernel_rfl)
            have hb21_ := hall 21 (by kernel_rfl)
            have hb24_ := hall 24 (by kernel_rfl)
            have hb25_ := hall 25 (by kernel_rfl)
            have hb29_ := hall 29 (by kernel_rfl)
            have hb33_ := hall 33 (by kernel_rfl)
            have hb35_ := hall 35 (by kernel_rfl)
            have hb36_ := hall 36 (by kernel_rfl)
            have hb37_ := hall 37 (by kernel_rfl)
            have hb38_ := hall 38 (by kernel_rfl)
            have hb39_ := hall 39 (by kernel_rfl)
            have hb40_ := hall 40 (by kernel_rfl)
            have hb41_ := hall 41 (by kernel_rfl)
            have hb42_ := hall 42 (by kernel_rfl)
            have hb43_ := hall 43 (by kernel_rfl)
            have hb44_ := hall 44 (by kernel_rfl)
            have hb45_ := hall 45 (by kernel_rfl)
            have hb46_ := hall 46 (by kernel_rfl)
            have hb47_ := hall 47 (by kernel_rfl)
            have hb48_ := hall 48 (by kernel_rfl)
            have hb49_ := hall 49 (by kernel_rfl)
            have hb50_ := hall 50 (by kernel_rfl)
            have hb51_ := hall 51 (by kernel_rfl)
            subst ha
            simp only [putSel, hb7_, hb8_, hb9_, hb10_, hb14_, hb16_, hb17_, hb21_, hb24_, hb25_, hb29_, hb33_, hb35_, hb36_, hb37_, hb38_, hb39_, hb40_, hb41_, hb42_, hb43_, hb44_, hb45_, hb46_, hb47_, hb48_, hb49_, hb50_, hb51_, if_true, Act.put, List.setIfInBounds_toArray, List.set_cons_zero, List.set_cons_succ]
            have B := aM Q_B
            clear Q_B Q_P0 Q_P1 Q_P2 Q_P3
            have P4 := aM (Q_P4 hb51_)
            clear Q_P4
            have M1 := aM Q_M1
            clear Q_M1 Q_LS Q_D0 Q_LD
            have D1 := aM (Q_D1 hb10_)
            clear Q_D1 Q_F0 Q_LF
            have F1 := aM (Q_F1 hb17_)
            clear Q_F1 Q_U0 Q_LU
            have U1 := aM (Q_U1 hb25_)
            clear Q_U1 Q_G0 Q_LG
            have G1 := aM (Q_G1 hb39_)
            clear Q_G1 Q_NFG Q_NF1
            have NF2 := aM (Q_NF2 hb39_)
            clear Q_NF2 Q_NL0 Q_NL1 hall hb7_ hb8_ hb9_ hb10_ hb14_ hb16_ hb17_ hb21_ hb24_ hb25_ hb29_ hb33_ hb35_ hb36_ hb37_ hb38_ hb39_ hb40_ hb41_ hb42_ hb43_ hb44_ hb45_ hb46_ hb47_ hb48_ hb49_ hb50_ hb51_
            go_wp2
            go_roundg (4 - (d + 1))
            case measure => have := HD.out; omega
            case rel =>
             refine ⟨L2 ++ [(own, (p1 + 1, ((i : Int), (d : Int))))], d + 1, _, _, _, _, by push_cast; rfl, by omega, ⟨by have := HD.out; omega⟩, ⟨?_⟩, ⟨?_⟩, ⟨?_⟩, ⟨?_⟩, ⟨?_⟩, P4, ⟨?_⟩, NF2, B⟩
             ·have h := HN.out.new HD.out HR.out (by rw [show L2.map Prod.fst = ds from HEQ.out.1]; exact HM.out)
              rw [HEQ.out.2.2.2.2.2.1] at h
              exact h
             ·rw [show stW (L2 ++ [(own, (p1 + 1, ((i : Int), (d : Int))))]) = ds ++ [own] from by rw [← HEQ.out.1]; exact List.map_append]; exact D1.out
             ·rw [show fromW (L2 ++ [(own, (p1 + 1, ((i : Int), (d : Int))))]) = fs ++ [(i : Int)] from by rw [← HEQ.out.2.1]; exact List.map_append]; exact F1.out
             ·have hs_ : sgW (p1 + 1, ((i : Int), (d : Int))) = sg := by
               unfold sgW
               rw [if_neg (show ¬ (i : Int) < 0 from by have := HI0.out; omega)]
               exact HSG.out
              rw [show signW (L2 ++ [(own, (p1 + 1, ((i : Int), (d : Int))))]) = us ++ [sg] from by rw [← HEQ.out.2.2.1, ← hs_]; exact List.map_append]; exact U1.out
             ·rw [show farW (L2 ++ [(own, (p1 + 1, ((i : Int), (d : Int))))]) = qs ++ [p1 + 1] from by rw [← HEQ.out.2.2.2.1]; exact List.map_append]; exact G1.out
             ·have h := M1.out
              rw [← HM1.out, HEQ.out.2.2.2.2.2.2, ← HEQ.out.2.2.2.2.1] at h
              rw [metW_append, Nat.zero_add]
              exact h
     ·have hdz : ¬ (d : Int) < 4 := by omega
      have hd4 : d = 4 := by have := HD4.out; omega
      subst hd4
      have HI := HI9.out
      go_wp2
      go_roundg (49000000 - (i + 1))
      case measure => omega
      case rel => exact ⟨L2, i + 1, _, _, _, _, by first | (push_cast; rfl) | (show Value.int .i64 (wrap64 ((i : Int) + 1)) = _; rw [show wrap64 ((i : Int) + 1) = ((i + 1 : Nat) : Int) by unfold wrap64; omega]), by omega, ⟨HN.out.outer⟩, D0, F0, U0, G0, BP, M0, NFG, B⟩
   ·have hltz : ¬ (i : Int) < (n0 : Int) := by omega
    obtain rfl := HO.out.done hlt
    obtain ⟨A1, c1, rfl⟩ := Kd.qx F0.out
    obtain ⟨A2, c2, rfl⟩ := Kd.qx U0.out
    obtain ⟨A3, c3, rfl⟩ := Kd.qx G0.out
    have HV := aM (And.intro hn0 hln)
    clear hn0 hln hlen hle hlt
    go_wp2
    go_ret
    refine ⟨_, rfl, ⟨gp, gm, Ad, A1, A2, A3, cd, c1, c2, c3, rfl, ?_, ?_, ?_, ?_, ?_, M0.out⟩, B.out⟩
    ·have h := BP.out
     rw [HV.out.2, List.length_map, List.length_map, List.length_map] at h
     exact h
    ·have h := (Kd.qT D0.out).2.2
     rw [HV.out.1, HV.out.2] at h
     exact h
    ·have h := (Kd.qT F0.out).2.2
     rw [List.length_map] at h
     exact h
    ·have h := (Kd.qT U0.out).2.2
     rw [List.length_map] at h
     exact h
    ·have h := (Kd.qT G0.out).2.2
     rw [List.length_map] at h
     exact h
end Go.Proofs.YtdhbimankkpllaaDoor
namespace Go.Proofs.YtdhbimankkpllaaDoor.P
open Go.RowKit Go.Proofs.YtdhbimankkpllaaDoorW.PrintWords Go.Proofs.YtdhbimankkpllaaDoorW.PrintLast Go.Proofs.YtdhbimankkpllaaDoorW.PrintMore
attribute [local go_sem] qg qe qq qp qX qW qf qd
set_option linter.unusedVariables false
set_option linter.unusedSimpArgs false
def qEB.f (k : Nat) (a0 : ByteArray) (a1_0 : Int) (a1_1 : Int) (a1_2 : Int) (a1_3 : Int) (a1_4 : Int) (a1_5 : Int) (a1_6 : Int) (a1_7 : Int) : Option (List ByteArray × Bool) := (qFB.f k a0).bind fun bt277 => (if bt277.2 = true then ((qNA.f k bt277.1 a1_0 a1_1 a1_2 a1_3 a1_4 a1_5 a1_6 a1_7).bind fun t281 => (some (bt277.1, t281))) else (some (bt277.1, false)))
set_option maxHeartbeats 8000000 in
set_option maxRecDepth 100000 in
theorem qEB.calls (k : Nat) (a0 : ByteArray) (a1_0 : Int) (a1_1 : Int) (a1_2 : Int) (a1_3 : Int) (a1_4 : Int) (a1_5 : Int) (a1_6 : Int) (a1_7 : Int) (r1 : List ByteArray) (r2 : Bool) (w : World) (hL : Laid w) (h : qEB.f k a0 a1_0 a1_1 a1_2 a1_3 a1_4 a1_5 a1_6 a1_7 = some (r1, r2)) :
  Calls Tryd.prog 21 #[.string a0, .agg #[.int .i64 a1_0, .int .i64 a1_1, .int .i64 a1_2, .int .i64 a1_3, .int .i64 a1_4, .int .i64 a1_5, .int .i64 a1_6, .int .i64 a1_7]] w fun e w' => ∃ v0_ : Value, e = .returned (.tuple #[v0_, .bool r2]) ∧ Kd.R Kd.string 9 w' w.heap.size (fun _ => True) v0_ r1 ∧ Below w.heap.size w w' := by
 have hu28 := Tryd.underlying28
 have HLD := aM hL
 clear hL
 have HB := aM (Below.refl w.heap.size w)
 have H : ((qFB.f k a0).bind fun bt277 => (if bt277.2 = true then ((qNA.f k bt277.1 a1_0 a1_1 a1_2 a1_3 a1_4 a1_5 a1_6 a1_7).bind fun t281 => (some (bt277.1, t281))) else (some (bt277.1, false)))) = some (r1, r2) := h
 clear h
 replace H := bO H
 obtain ⟨⟨t277, t278⟩, A3, H⟩ := H
 dsimp only at H A3
 by_cases c4 : t278 = true
 ·subst c4
  replace H := iT H
  replace H := bO H
  obtain ⟨t281, A5, H⟩ := H
  simp only [Option.some.injEq, Prod.mk.injEq] at H
  obtain ⟨rfl, rfl⟩ := H
  go_enter Tryd.func21, Tryd.ntmps21
  go_wp2_with (first | ((with_reducible refine qH (N := 3) rfl ?_); refine bE (N := 3) (cs := #[.int .i64 a1_0, .int .i64 a1_1, .int .i64 a1_2, .int .i64 a1_3, .int .i64 a1_4, .int .i64 a1_5, .int .i64 a1_6, .int .i64 a1_7]) (t := 28) ?_; intro gb276 hg w6 hbox hb; have BK276 := aM (hbox); have GW276 := aM ((gg hg)); have GE276 := aM ((gg hg)); replace HB := aM (qB bl hb); clear hb hbox hg) | ((with_reducible refine qJ (f := 32) rfl ?_); refine qZ (some 10) rfl rfl Tryd.func32 (by kernel_rfl) rfl #[.string a0] rfl gA ?_; (with_reducible refine (qFB.calls k a0 t277 true _ ?side1 A3.out).mono ?_); (case side1 => first | (with_reducible exact HLD.out) | exact Laid.below HLD.out bl); rintro e w7 ⟨v279, rfl, ho0, hb⟩; refine ⟨_, rfl, ?_⟩; have HO280 := aM (Kd.qSA ho0 (qk bl)); replace BK276 := aM (bb BK276 hb); replace HB := aM (qB bl hb); (try clear hb); (try clear hb2); (try clear hk); (try clear hi); (try clear ho0); (refine cb8 BK276 ?_; intro _ _ _ _ _ _ _ _); (refine cz8 BK276 ?_; intro _ _ _ _ _ _ _ _); obtain ⟨Ao9, co9, eo9⟩ := Kd.qx HO280.out; subst eo9) | (go_at_call 33; (with_reducible refine (qNA.calls k _ _ t277 a1_0 a1_1 a1_2 a1_3 a1_4 a1_5 a1_6 a1_7 t281 _ ?side1 ?side2 A5.out).mono ?_); (case side1 => repeat (first | exact (Kd.qT HO280.out).2.2 | (with_reducible refine Kd.qPA ?_ _) | (with_reducible refine Kd.qOA ?_ _) | (with_reducible refine Kd.qkA ?_))); (case side2 => exact (Kd.qT HO280.out).2.1); rintro e w10 ⟨rfl, hb⟩; replace HO280 := aM (Kd.qY (rR HO280) hb); replace BK276 := aM (bb BK276 hb); replace HB := aM (qB bl hb); (try clear hb); (try clear hb2); (try clear hk); (try clear hi)))
  go_ret2
  exact ⟨_, sR, by (with_reducible repeat (first | apply Kd.qo | apply Kd.qr | apply Kd.qc)); exact HO280.out, bl⟩
 ·replace c4 := Bool.eq_false_iff.mpr c4
  subst c4
  replace H := iF H
  simp only [Option.some.injEq, Prod.mk.injEq] at H
  obtain ⟨rfl, rfl⟩ := H
  go_enter Tryd.func21, Tryd.ntmps21
  go_wp2_with (first | ((with_reducible refine qH (N := 3) rfl ?_); refine bE (N := 3) (cs := #[.int .i64 a1_0, .int .i64 a1_1, .int .i64 a1_2, .int .i64 a1_3, .int .i64 a1_4, .int .i64 a1_5, .int .i64 a1_6, .int .i64 a1_7]) (t := 28) ?_; intro gb276 hg w11 hbox hb; have BK276 := aM (hbox); have GW276 := aM ((gg hg)); have GE276 := aM ((gg hg)); replace HB := aM (qB bl hb); clear hb hbox hg) | ((with_reducible refine qJ (f := 32) rfl ?_); refine qZ (some 10) rfl rfl Tryd.func32 (by kernel_rfl) rfl #[.string a0] rfl gA ?_; (with_reducible refine (qFB.calls k a0 t277 false _ ?side1 A3.out).mono ?_); (case side1 => first | (with_reducible exact HLD.out) | exact Laid.below HLD.out bl); rintro e w12 ⟨v279, rfl, ho0, hb⟩; refine ⟨_, rfl, ?_⟩; have HO280 := aM (Kd.qSA ho0 (qk bl)); replace BK276 := aM (bb BK276 hb); replace HB := aM (qB bl hb); (try clear hb); (try clear hb2); (try clear hk); (try clear hi); (try clear ho0)))
  go_ret2
  exact ⟨_, sR, by (with_reducible repeat (first | apply Kd.qo | apply Kd.qr | apply Kd.qc)); exact HO280.out, bl⟩
end Go.Proofs.YtdhbimankkpllaaDoor.P
namespace Go.Proofs.YtdhbimankkpllaaDoor
open Go.RowKit Go.Proofs.YtdhbimankkpllaaDoor.P Go.Proofs.YtdhbimankkpllaaDoorW.PrintWords Go.Proofs.YtdhbimankkpllaaDoorW.PrintLast Go.Proofs.YtdhbimankkpllaaDoorW.PrintMore
set_option linter.unusedVariables false
set_option linter.unusedSimpArgs false
theorem onBoard_ev (a : ByteArray) (ha : a.size ≤ 1048576) (s : XS) : ∃ rows : List ByteArray, Ev (fun k => qEB.f k a s.f0 s.f1 s.f2.f0 s.f2.f1 s.f2.f2 s.f2.f3 s.f2.f4 s.f2.f5) (rows, askS a s) ∧ (askS a s = true → rows = rowsT a) := by
 obtain ⟨rows, h, hr⟩ := board_ev a ha
 refine ⟨rows, ?_, fun q => hr (by unfold askS at q; rw [Bool.and_eq_true] at q; exact q.1)⟩
 unfold qEB.f askS
 cases hb : boardB a with
 | false =>
  rw [hb] at h
  exact Ev.bind h (Ev.neg (by simp) (Ev.now _))
 | true =>
  rw [hb] at h
  obtain rfl := hr hb
  refine Ev.bind h (Ev.pos rfl (Ev.bind (isState_ev (qhC hb) s) ?_))
  rw [Bool.true_and]
  exact Ev.now _
theorem movesRoll {a : ByteArray} (g : Gnd a) (A : Option Addr) (c : Nat) (w : World) (hC : Kd.C Kd.string w A (rowsT a).length (rowsT a)) (hc : (rowsT a).length ≤ c) : MovesW a 23 #[.slice A (rowsT a).length c] #[] w := by
 intro W x d hx hb
 refine (qzA.calls A c (rowsT a) x.f0 x.f1 x.f2.f0 x.f2.f1 x.f2.f2 x.f2.f3 x.f2.f4 x.f2.f5 d _ _ _ _ _ _ _ _ _ W (Kd.qdA hC hb) hc (implRoll_eq g x d)).mono ?_
 rintro e w' ⟨rfl, hb'⟩
 exact ⟨rfl, hb'⟩
set_option maxHeartbeats 4000000 in
set_option maxRecDepth 100000 in
theorem reachOn_calls (a : ByteArray) (ha : a.size ≤ 1048576) (s : XS) (w : World) (hL : Laid w) :
  Calls Tryd.prog 12 #[.string a, .agg #[.int .i64 s.f0, .int .i64 s.f1, .int .i64 s.f2.f0, .int .i64 s.f2.f1, .int .i64 s.f2.f2, .int .i64 s.f2.f3, .int .i64 s.f2.f4, .int .i64 s.f2.f5]] w fun e w' =>
   ∃ v : Value, e = .returned (.tuple #[v, .bool (askS a s)]) ∧ (askS a s = true → ReachAt w' v (reachW a s)) ∧ Below w.heap.size w w' := by
 have hu_ := Tryd.underlying28
 obtain ⟨rows, ⟨kt, hkt⟩, hrows⟩ := onBoard_ev a ha s
 have HT := aM (hkt kt (Nat.le_refl _))
 have HL := aM hL
 have B := aM (Below.refl w.heap.size w)
 have hmf : ∀ (fn : Fn) (first cap : Array Value) (w : World), (Instr.makeFunc fn first cap).run Tryd.prog w = .ok (.func fn first cap) w := fun _ _ _ _ => rfl
 clear hkt hL
 cases hA : askS a s with
 | false =>
  rw [hA] at HT
  clear hrows hA
  go_enter Tryd.func12, Tryd.ntmps12
  go_wp2_with (first
   | ((with_reducible refine qH (N := 3) rfl ?_); go_loud (refine bE (N := 3) (cs := #[.int .i64 s.f0, .int .i64 s.f1, .int .i64 s.f2.f0, .int .i64 s.f2.f1, .int .i64 s.f2.f2, .int .i64 s.f2.f3, .int .i64 s.f2.f4, .int .i64 s.f2.f5]) (t := 28) ?_; intro gs hgs w1 hbox hb; replace B := aM (qy B.out B.out.size hb); have hz0 : w1.cell? ⟨gs, 0, none⟩ = some (.int .i64 s.f0) := (qD hbox 0).trans rfl; have hz1 : w1.cell? ⟨gs, 1, none⟩ = some (.int .i64 s.f1) := (qD hbox 1).trans rfl; have hz2 : w1.cell? ⟨gs, 2, none⟩ = some (.int .i64 s.f2.f0) := (qD hbox 2).trans rfl; have hz3 : w1.cell? ⟨gs, 3, none⟩ = some (.int .i64 s.f2.f1) := (qD hbox 3).trans rfl; have hz4 : w1.cell? ⟨gs, 4, none⟩ = some (.int .i64 s.f2.f2) := (qD hbox 4).trans rfl; have hz5 : w1.cell? ⟨gs, 5, none⟩ = some (.int .i64 s.f2.f3) := (qD hbox 5).trans rfl; have hz6 : w1.cell? ⟨gs, 6, none⟩ = some (.int .i64 s.f2.f4) := (qD hbox 6).trans rfl; have hz7 : w1.cell? ⟨gs, 7, none⟩ = some (.int .i64 s.f2.f5) := (qD hbox 7).trans rfl; clear hbox hb hgs))
   | (go_at_call 21; go_loud (refine (qEB.calls kt a s.f0 s.f1 s.f2.f0 s.f2.f1 s.f2.f2 s.f2.f3 s.f2.f4 s.f2.f5 rows false _ (Laid.below HL.out B.out) HT.out).mono ?_; rintro e w2 ⟨v0_, rfl, hR, hb⟩; replace B := aM (qy B.out B.out.size hb); clear hR hb hz0 hz1 hz2 hz3 hz4 hz5 hz6 hz7)))
  go_ret2
  refine ⟨_, rfl, ?_, B.out⟩
  intro h
  cases h
 | true =>
  rw [hA] at HT
  obtain rfl := hrows hA
  unfold askS at hA
  rw [Bool.and_eq_true] at hA
  have HGD := aM (qhC hA.1)
  have HST := aM hA.2
  clear hrows hA
  go_enter Tryd.func12, Tryd.ntmps12
  go_wp2_with (first
   | ((with_reducible refine qH (N := 3) rfl ?_); go_loud (refine bE (N := 3) (cs := #[.int .i64 s.f0, .int .i64 s.f1, .int .i64 s.f2.f0, .int .i64 s.f2.f1, .int .i64 s.f2.f2, .int .i64 s.f2.f3, .int .i64 s.f2.f4, .int .i64 s.f2.f5]) (t := 28) ?_; intro gs hgs w1 hbox hb; replace B := aM (qy B.out B.out.size hb); have BS := aM hbox; have hz0 : w1.cell? ⟨gs, 0, none⟩ = some (.int .i64 s.f0) := (qD hbox 0).trans rfl; have hz1 : w1.cell? ⟨gs, 1, none⟩ = some (.int .i64 s.f1) := (qD hbox 1).trans rfl; have hz2 : w1.cell? ⟨gs, 2, none⟩ = some (.int .i64 s.f2.f0) := (qD hbox 2).trans rfl; have hz3 : w1.cell? ⟨gs, 3, none⟩ = some (.int .i64 s.f2.f1) := (qD hbox 3).trans rfl; have hz4 : w1.cell? ⟨gs, 4, none⟩ = some (.int .i64 s.f2.f2) := (qD hbox 4).trans rfl; have hz5 : w1.cell? ⟨gs, 5, none⟩ = some (.int .i64 s.f2.f3) := (qD hbox 5).trans rfl; have hz6 : w1.cell? ⟨gs, 6, none⟩ = some (.int .i64 s.f2.f4) := (qD hbox 6).trans rfl; have hz7 : w1.cell? ⟨gs, 7, none⟩ = some (.int .i64 s.f2.f5) := (qD hbox 7).trans rfl; clear hbox hb hgs))
   | (go_at_call 21; go_loud (refine (qEB.calls kt a s.f0 s.f1 s.f2.f0 s.f2.f1 s.f2.f2 s.f2.f3 s.f2.f4 s.f2.f5 (rowsT a) true _ (Laid.below HL.out B.out) HT.out).mono ?_; rintro e w2 ⟨v0_, rfl, hR, hb⟩; obtain ⟨Ag, cg, rfl, hcg, hCg⟩ := Kd.qeC hR; have HMV := aM (movesRoll HGD.out Ag cg w2 hCg hcg); have n0_ := aM (qy B.out B.out.size hb); have hbox := qS BS.out hb; clear B BS; have B := n0_; clear n0_ hR hb hz0 hz1 hz2 hz3 hz4 hz5 hz6 hz7 hcg hCg; have hz0 : w2.cell? ⟨gs, 0, none⟩ = some (.int .i64 s.f0) := (qD hbox 0).trans rfl; have hz1 : w2.cell? ⟨gs, 1, none⟩ = some (.int .i64 s.f1) := (qD hbox 1).trans rfl; have hz2 : w2.cell? ⟨gs, 2, none⟩ = some (.int .i64 s.f2.f0) := (qD hbox 2).trans rfl; have hz3 : w2.cell? ⟨gs, 3, none⟩ = some (.int .i64 s.f2.f1) := (qD hbox 3).trans rfl; have hz4 : w2.cell? ⟨gs, 4, none⟩ = some (.int .i64 s.f2.f2) := (qD hbox 4).trans rfl; have hz5 : w2.cell? ⟨gs, 5, none⟩ = some (.int .i64 s.f2.f3) := (qD hbox 5).trans rfl; have hz6 : w2.cell? ⟨gs, 6, none⟩ = some (.int .i64 s.f2.f4) := (qD hbox 6).trans rfl; have hz7 : w2.cell? ⟨gs, 7, none⟩ = some (.int .i64 s.f2.f5) := (qD hbox 7).trans rfl; clear hbox))
   | (go_at_call 22; go_loud (refine (reached_calls HGD.out s HST.out 23 #[.slice Ag (rowsT a).length cg] #[] (fun args w => qdC Tryd.func23 (by kernel_rfl) rfl args w) _ HMV.out).mono ?_; rintro e w3 ⟨v, rfl, hv, hb⟩; have HV := aM hv; replace B := aM (qy B.out B.out.size hb); clear hv hb hz0 hz1 hz2 hz3 hz4 hz5 hz6 hz7 HMV)))
  go_ret2
  refine ⟨_, rfl, ?_, B.out⟩
  intro _
  exact HV.out
end Go.Proofs.YtdhbimankkpllaaDoor
namespace Go.Proofs.YtdhbimankkpllaaDoor
open Go.RowKit Go.Proofs.YtdhbimankkpllaaDoor.P Go.Proofs.YtdhbimankkpllaaDoorW.PrintWords Go.Proofs.YtdhbimankkpllaaDoorW.PrintLast
set_option linter.unusedVariables false
set_option linter.unusedSimpArgs false
def numsS (s : XS) : List Int := s.f1 :: s.f0 :: facesD s.f2
def ltS (t u : XS) : Bool := decide (lexI (numsS t) (numsS u) < 0)
theorem qlC (s : XS) : ltS s s = false := by unfold ltS; rw [lexI_self]; decide
theorem ltS_trans {s t u : XS} (h1 : ltS s t = true) (h2 : ltS t u = true) : ltS s u = true :=
 decide_eq_true (lexI_trans (numsS s) (numsS t) (numsS u) rfl rfl (of_decide_eq_true h1) (of_decide_eq_true h2))
theorem ltS_tot {s t : XS} (h1 : ltS s t = false) (h2 : ltS t s = false) : s = t := by
 have h := lexI_tot (numsS s) (numsS t) rfl (of_decide_eq_false h1) (of_decide_eq_false h2)
 unfold numsS at h
 injection h with a h
 injection h with b h
 exact qoC b a (facesD_inj h)
def farS : XS → Int → List (XS × Int) → XS × Int
 | b, m, [] => (b, m)
 | b, m, (s, f) :: r => if f > m then farS s f r else if f = m then (if ltS s b = true then farS s f r else farS b m r) else farS b m r
def minS (M : Int) : XS → List (XS × Int) → XS
 | b, [] => b
 | b, (s, f) :: r => if f = M then (if ltS s b = true then minS M s r else minS M b r) else minS M b r
theorem qUC (l : List (XS × Int)) : ∀ (r : List (XS × Int)) (b : XS) (m : Int), (∀ z ∈ r, z ∈ l) → (b, m) ∈ l → (∀ z ∈ l, z ∈ r ∨ z.2 < m ∨ (z.2 = m ∧ ltS z.1 b = false)) →
  farS b m r ∈ l ∧ ∀ z ∈ l, z.2 < (farS b m r).2 ∨ (z.2 = (farS b m r).2 ∧ ltS z.1 (farS b m r).1 = false)
 | [], b, m, _, hb, h => ⟨hb, fun z hz => (h z hz).resolve_left (by simp)⟩
 | (s, f) :: r, b, m, hr, hb, h => by
  have hs := hr (s, f) List.mem_cons_self
  have hr2 : ∀ z ∈ r, z ∈ l := fun z hz => hr z (List.mem_cons_of_mem _ hz)
  unfold farS
  by_cases h1 : f > m
  ·rw [if_pos h1]
   refine qUC l r s f hr2 hs fun z hz => ?_
   rcases h z hz with q | q | q
   ·rcases List.mem_cons.1 q with rfl | q
    ·exact .inr (.inr ⟨rfl, qlC _⟩)
    ·exact .inl q
   ·exact .inr (.inl (by omega))
   ·exact .inr (.inl (by omega))
  ·rw [if_neg h1]
   by_cases h2 : f = m
   ·rw [if_pos h2]
    subst h2
    cases h3 : ltS s b with
    | true =>
     rw [if_pos rfl]
     refine qUC l r s f hr2 hs fun z hz => ?_
     rcases h z hz with q | q | q
     ·rcases List.mem_cons.1 q with rfl | q
      ·exact .inr (.inr ⟨rfl, qlC _⟩)
      ·exact .inl q
     ·exact .inr (.inl q)
     ·refine .inr (.inr ⟨q.1, ?_⟩)
      cases h4 : ltS z.1 s with
      | false => rfl
      | true =>
       have h5 := ltS_trans h4 h3
       rw [q.2] at h5
       cases h5
    | false =>
     rw [if_neg (by decide)]
     refine qUC l r b f hr2 hb fun z hz => ?_
     rcases h z hz with q | q | q
     ·rcases List.mem_cons.1 q with rfl | q
      ·exact .inr (.inr ⟨rfl, h3⟩)
      ·exact .inl q
     ·exact .inr (.inl q)
     ·exact .inr (.inr q)
   ·rw [if_neg h2]
    refine qUC l r b m hr2 hb fun z hz => ?_
    rcases h z hz with q | q | q
    ·rcases List.mem_cons.1 q with rfl | q
     ·exact .inr (.inl (by show f < m; omega))
     ·exact .inl q
    ·exact .inr (.inl q)
    ·exact .inr (.inr q)
theorem qYC (l : List (XS × Int)) (M : Int) : ∀ (r : List (XS × Int)) (b : XS), (∀ z ∈ r, z ∈ l) → (b, M) ∈ l → (∀ z ∈ l, z ∈ r ∨ z.2 ≠ M ∨ ltS z.1 b = false) →
  (minS M b r, M) ∈ l ∧ ∀ z ∈ l, z.2 = M → ltS z.1 (minS M b r) = false
 | [], b, _, hb, h => ⟨hb, fun z hz hM => ((h z hz).resolve_left (by simp)).resolve_left (fun q => q hM)⟩
 | (s, f) :: r, b, hr, hb, h => by
  have hs := hr (s, f) List.mem_cons_self
  have hr2 : ∀ z ∈ r, z ∈ l := fun z hz => hr z (List.mem_cons_of_mem _ hz)
  unfold minS
  by_cases h1 : f = M
  ·rw [if_pos h1]
   subst h1
   cases h3 : ltS s b with
   | true =>
    rw [if_pos rfl]
    refine qYC l f r s hr2 hs fun z hz => ?_
    rcases h z hz with q | q | q
    ·rcases List.mem_cons.1 q with rfl | q
     ·exact .inr (.inr (qlC _))
     ·exact .inl q
    ·exact .inr (.inl q)
    ·refine .inr (.inr ?_)
     cases h4 : ltS z.1 s with
     | false => rfl
     | true =>
      have h5 := ltS_trans h4 h3
      rw [q] at h5
      cases h5
   | false =>
    rw [if_neg (by decide)]
    refine qYC l f r b hr2 hb fun z hz => ?_
    rcases h z hz with q | q | q
    ·rcases List.mem_cons.1 q with rfl | q
     ·exact .inr (.inr h3)
     ·exact .inl q
    ·exact .inr (.inl q)
    ·exact .inr (.inr q)
  ·rw [if_neg h1]
   refine qYC l M r b hr2 hb fun z hz => ?_
   rcases h z hz with q | q | q
   ·rcases List.mem_cons.1 q with rfl | q
    ·exact .inr (.inl h1)
    ·exact .inl q
   ·exact .inr (.inl q)
   ·exact .inr (.inr q)
theorem far_min {l : List (XS × Int)} {s0 b : XS} {m M : Int} (h0 : (s0, m) ∈ l) (hm : ∀ z ∈ l, m ≤ z.2) (hb : (b, M) ∈ l) (hM : ∀ z ∈ l, z.2 ≤ M) : farS s0 m l = (minS M b l, M) := by
 obtain ⟨a1, a2⟩ := qUC l l s0 m (fun _ h => h) h0 (fun z hz => .inl hz)
 obtain ⟨b1, b2⟩ := qYC l M l b (fun _ h => h) hb (fun z hz => .inl hz)
 have e : (farS s0 m l).2 = M := by
  have q1 := hM _ a1
  have q2 := a2 _ hb
  simp only at q2
  omega
 have f : (farS s0 m l).1 = minS M b l := by
  refine ltS_tot (b2 _ a1 e) ?_
  have q := a2 _ b1
  rw [e] at q
  exact (q.resolve_left (Int.lt_irrefl M)).2
 exact Prod.ext f e
def tupS (s : XS) (m : Int) (b : Bool) : Int × Int × Int × Int × Int × Int × Int × Int × Int × Bool := (s.f0, s.f1, s.f2.f0, s.f2.f1, s.f2.f2, s.f2.f3, s.f2.f4, s.f2.f5, m, b)
def sf (z : XS × WB) : XS × Int := (z.1, z.2.1)
end Go.Proofs.YtdhbimankkpllaaDoor
namespace Go.Proofs.YtdhbimankkpllaaDoor.P
open Go.RowKit Go.Proofs.YtdhbimankkpllaaDoorW.PrintWords Go.Proofs.YtdhbimankkpllaaDoorW.PrintLast Go.Proofs.YtdhbimankkpllaaDoorW.PrintMore
attribute [local go_sem] qg qe qq qp qX qW qf qd
set_option linter.unusedVariables false
set_option linter.unusedSimpArgs false
def qn.f (a0 : Int) : Option (Bool) := some (a0 != a0)
set_option maxHeartbeats 8000000 in
set_option maxRecDepth 100000 in
theorem qn.calls (a0 : Int) (r : Bool) (w : World) (h : qn.f a0 = some r) :
  Calls Tryd.prog 45 #[.int .i64 a0] w fun e w' => e = .returned (.bool r) ∧ Drawn0 w w' := by
 have H : (some (a0 != a0)) = some r := h
 clear h
 obtain rfl := Option.some.inj H
 go_enter Tryd.func45, Tryd.ntmps45
 go_wp2
 go_ret
 exact ⟨by first | rfl | (simp; done) | (simp [*]; done), dR⟩
def qbA.f (a0 : Int) (a1 : Int) : Option (Int) := (qn.f a0).bind fun t287 => ((qn.f a1).bind fun t288 => (if t287 = true then (if t288 = true then (some 0) else (some (-1))) else (if t288 = true then (some 1) else (if a0 < a1 then (some (-1)) else (if a0 > a1 then (some 1) else (some 0))))))
set_option maxHeartbeats 8000000 in
set_option maxRecDepth 100000 in
theorem qbA.calls (a0 : Int) (a1 : Int) (r : Int) (w : World) (h : qbA.f a0 a1 = some r) :
  Calls Tryd.prog 38 #[.int .i64 a0, .int .i64 a1] w fun e w' => e = .returned (.int .i64 r) ∧ Drawn0 w w' := by
 have H : ((qn.f a0).bind fun t287 => ((qn.f a1).bind fun t288 => (if t287 = true then (if t288 = true then (some 0) else (some (-1))) else (if t288 = true then (some 1) else (if a0 < a1 then (some (-1)) else (if a0 > a1 then (some 1) else (some 0))))))) = some r := h
 clear h
 replace H := bO H
 obtain ⟨t287, A3, H⟩ := H
 replace H := bO H
 obtain ⟨t288, A4, H⟩ := H
 by_cases c5 : t287 = true
 ·subst c5
  replace H := iT H
  by_cases c6 : t288 = true
  ·subst c6
   replace H := iT H
   obtain rfl := Option.some.inj H
   go_enter Tryd.func38, Tryd.ntmps38
   go_wp2_with (first | ((with_reducible refine qJ (f := 45) rfl ?_); refine qZ (some 8) rfl rfl Tryd.func45 (by kernel_rfl) rfl #[.int .i64 a0] rfl gA ?_; (with_reducible refine (qn.calls a0 true _ A3.out).mono ?_); rintro e w' ⟨rfl, ⟨nd, rfl⟩⟩; refine ⟨_, rfl, ?_⟩) | ((with_reducible refine qJ (f := 45) rfl ?_); refine qZ (some 10) rfl rfl Tryd.func45 (by kernel_rfl) rfl #[.int .i64 a1] rfl gA ?_; (with_reducible refine (qn.calls a1 true _ A4.out).mono ?_); rintro e w' ⟨rfl, ⟨nd, rfl⟩⟩; refine ⟨_, rfl, ?_⟩))
   go_ret
   exact ⟨by first | rfl | (simp; done) | (simp [*]; done), dR⟩
  ·replace c6 := Bool.eq_false_iff.mpr c6
   subst c6
   replace H := iF H
   obtain rfl := Option.some.inj H
   go_enter Tryd.func38, Tryd.ntmps38
   go_wp2_with (first | ((with_reducible refine qJ (f := 45) rfl ?_); refine qZ (some 8) rfl rfl Tryd.func45 (by kernel_rfl) rfl #[.int .i64 a0] rfl gA ?_; (with_reducible refine (qn.calls a0 true _ A3.out).mono ?_); rintro e w' ⟨rfl, ⟨nd, rfl⟩⟩; refine ⟨_, rfl, ?_⟩) | ((with_reducible refine qJ (f := 45) rfl ?_); refine qZ (some 10) rfl rfl Tryd.func45 (by kernel_rfl) rfl #[.int .i64 a1] rfl gA ?_; (with_reducible refine (qn.calls a1 false _ A4.out).mono ?_); rintro e w' ⟨rfl, ⟨nd, rfl⟩⟩; refine ⟨_, rfl, ?_⟩))
   go_ret
   exact ⟨by first | rfl | (simp; done) | (simp [*]; done), dR⟩
 ·replace c5 := Bool.eq_false_iff.mpr c5
  subst c5
  replace H := iF H
  by_cases c7 : t288 = true
  ·subst c7
   replace H := iT H
   obtain rfl := Option.some.inj H
   go_enter Tryd.func38, Tryd.ntmps38
   go_wp2_with (first | ((with_reducible refine qJ (f := 45) rfl ?_); refine qZ (some 8) rfl rfl Tryd.func45 (by kernel_rfl) rfl #[.int .i64 a0] rfl gA ?_; (with_reducible refine (qn.calls a0 false _ A3.out).mono ?_); rintro e w' ⟨rfl, ⟨nd, rfl⟩⟩; refine ⟨_, rfl, ?_⟩) | ((with_reducible refine qJ (f := 45) rfl ?_); refine qZ (some 10) rfl rfl Tryd.func45 (by kernel_rfl) rfl #[.int .i64 a1] rfl gA ?_; (with_reducible refine (qn.calls a1 true _ A4.out).mono ?_); rintro e w' ⟨rfl, ⟨nd, rfl⟩⟩; refine ⟨_, rfl, ?_⟩))
   go_ret
   exact ⟨by first | rfl | (simp; done) | (simp [*]; done), dR⟩
  ·replace c7 := Bool.eq_false_iff.mpr c7
   subst c7
   replace H := iF H
   by_cases c8 : a0 < a1
   ·rw [if_pos c8] at H
    have c8b0 := decide_eq_true c8
    clear c8
    obtain rfl := Option.some.inj H
    go_enter Tryd.func38, Tryd.ntmps38
    go_wp2_with (first | ((with_reducible refine qJ (f := 45) rfl ?_); refine qZ (some 8) rfl rfl Tryd.func45 (by kernel_rfl) rfl #[.int .i64 a0] rfl gA ?_; (with_reducible refine (qn.calls a0 false _ A3.out).mono ?_); rintro e w' ⟨rfl, ⟨nd, rfl⟩⟩; refine ⟨_, rfl, ?_⟩) | ((with_reducible refine qJ (f := 45) rfl ?_); refine qZ (some 10) rfl rfl Tryd.func45 (by kernel_rfl) rfl #[.int .i64 a1] rfl gA ?_; (with_reducible refine (qn.calls a1 false _ A4.out).mono ?_); rintro e w' ⟨rfl, ⟨nd, rfl⟩⟩; refine ⟨_, rfl, ?_⟩))
    go_ret
    exact ⟨by first | rfl | (simp; done) | (simp [*]; done), dR⟩
   ·rw [if_neg c8] at H
    have c8b0 := decide_eq_false c8
    clear c8
    by_cases c9 : a0 > a1
    ·rw [if_pos c9] at H
     have c9b0 := decide_eq_true c9
     clear c9
     obtain rfl := Option.some.inj H
     go_enter Tryd.func38, Tryd.ntmps38
     go_wp2_with (first | ((with_reducible refine qJ (f := 45) rfl ?_); refine qZ (some 8) rfl rfl Tryd.func45 (by kernel_rfl) rfl #[.int .i64 a0] rfl gA ?_; (with_reducible refine (qn.calls a0 false _ A3.out).mono ?_); rintro e w' ⟨rfl, ⟨nd, rfl⟩⟩; refine ⟨_, rfl, ?_⟩) | ((with_reducible refine qJ (f := 45) rfl ?_); refine qZ (some 10) rfl rfl Tryd.func45 (by kernel_rfl) rfl #[.int .i64 a1] rfl gA ?_; (with_reducible refine (qn.calls a1 false _ A4.out).mono ?_); rintro e w' ⟨rfl, ⟨nd, rfl⟩⟩; refine ⟨_, rfl, ?_⟩))
     go_ret
     exact ⟨by first | rfl | (simp; done) | (simp [*]; done), dR⟩
    ·rw [if_neg c9] at H
     have c9b0 := decide_eq_false c9
     clear c9
     obtain rfl := Option.some.inj H
     go_enter Tryd.func38, Tryd.ntmps38
     go_wp2_with (first | ((with_reducible refine qJ (f := 45) rfl ?_); refine qZ (some 8) rfl rfl Tryd.func45 (by kernel_rfl) rfl #[.int .i64 a0] rfl gA ?_; (with_reducible refine (qn.calls a0 false _ A3.out).mono ?_); rintro e w' ⟨rfl, ⟨nd, rfl⟩⟩; refine ⟨_, rfl, ?_⟩) | ((with_reducible refine qJ (f := 45) rfl ?_); refine qZ (some 10) rfl rfl Tryd.func45 (by kernel_rfl) rfl #[.int .i64 a1] rfl gA ?_; (with_reducible refine (qn.calls a1 false _ A4.out).mono ?_); rintro e w' ⟨rfl, ⟨nd, rfl⟩⟩; refine ⟨_, rfl, ?_⟩))
     go_ret
     exact ⟨by first | rfl | (simp; done) | (simp [*]; done), dR⟩
def qN.l0 : Nat → List Int → List Int → List Int → Int → Int → Option (Int)
 | 0, _, _, _, _, _ => none
 | k + 1, x0, x1, x9, x10, x11 => if x11 < x10 then (if 0 ≤ x11 then (if x11 < (x9.length : Int) then (if x11 ≥ (x1.length : Int) then (some 1) else (if x11 < (x1.length : Int) then ((qbA.f (rd x9 x11) (rd x1 x11)).bind fun t291 => (if t291 = 0 then (qN.l0 k x0 x1 x9 x10 (wrap64 (x11 + 1))) else (some t291))) else (none))) else (none)) else (none)) else (if (x0.length : Int) < (x1.length : Int) then (some (-1)) else (some 0))
def qN.f (k : Nat) (l0 : List Int) (l1 : List Int) : Option (Int) := qN.l0 k l0 l1 l0 (l0.length : Int) 0
set_option maxHeartbeats 8000000 in
set_option maxRecDepth 100000 in
theorem qN.calls (k : Nat) (A0 : Option Addr) (c0 : Nat) (l0 : List Int) (A1 : Option Addr) (c1 : Nat) (l1 : List Int) (r : Int) (w : World) (hr0 : Kd.C (Kd.int .i64) w A0 l0.length l0) (hc0 : l0.length ≤ c0) (hr1 : Kd.C (Kd.int .i64) w A1 l1.length l1) (hc1 : l1.length ≤ c1) (h : qN.f k l0 l1 = some r) :
  Calls Tryd.prog 25 #[.slice A0 l0.length c0, .slice A1 l1.length c1] w fun e w' => e = .returned (.int .i64 r) ∧ Drawn0 w w' := by
 have HR0 := aM hr0
 have HC0 := aM hc0
 clear hr0 hc0
 have HR1 := aM hr1
 have HC1 := aM hc1
 clear hr1 hc1
 have H : (qN.l0 k l0 l1 l0 (l0.length : Int) 0) = some r := h
 clear h
 have H' := aM H
 clear H
 go_enter Tryd.func25, Tryd.ntmps25
 go_wp2
 go_loopg [11] k (fun kq v11 w' => ∃ (x11_1 : Int), v11 = .int .i64 x11_1 ∧ Aside0 (qN.l0 kq l0 l1 l0 (l0.length : Int) x11_1 = some r) ∧ Aside0 (kq ≤ k) ∧ Drawn0 w w')
 case atStart => exact ⟨(0), sD, H', ⟨Nat.le_refl _⟩, dR⟩
 case round =>
  clear H'; (try clear c1); (try clear c2); (try clear p2)
  obtain ⟨x11_1, rfl, HA, HK1, ⟨m1, rfl⟩⟩ := hrel
  cases gk with
  | zero => exact absurd HA.out (by simp [qN.l0])
  | succ k1 =>
   have H := HA.out
   clear HA
   simp only [qN.l0] at H
   by_cases c3 : x11_1 < (l0.length : Int)
   ·rw [if_pos c3] at H
    have c3b0 := decide_eq_true c3
    clear c3
    by_cases c4 : 0 ≤ x11_1
    case neg => exact nN c4 H
    rw [if_pos c4] at H
    have c4b0 := decide_eq_true c4
    clear c4
    by_cases c5 : x11_1 < (l0.length : Int)
    case neg => exact nN c5 H
    rw [if_pos c5] at H
    have c5b0 := decide_eq_true c5
    clear c5
    by_cases c6 : x11_1 ≥ (l1.length : Int)
    ·rw [if_pos c6] at H
     have c6b0 := decide_eq_true c6
     clear c6
     obtain rfl := Option.some.inj H
     have p289 : 0 ≤ (x11_1 : Int) := of_decide_eq_true am
     have q289 : x11_1 < (l0.length : Int) := of_decide_eq_true am
     obtain ⟨ad289, e289, hx289_0⟩ := Kd.qqA HR0.out x11_1 p289 q289
     cases e289
     replace p289 := eq_true p289
     replace q289 := eq_true q289
     go_wp2
     go_ret
     exact ⟨by first | rfl | (simp; done) | (simp [*]; done), dR⟩
    ·rw [if_neg c6] at H
     have c6b0 := decide_eq_false c6
     clear c6
     by_cases c7 : x11_1 < (l1.length : Int)
     case neg => exact nN c7 H
     rw [if_pos c7] at H
     have c7b0 := decide_eq_true c7
     clear c7
     replace H := bO H
     obtain ⟨t291, A8, H⟩ := H
     by_cases c9 : t291 = 0
     ·rw [if_pos c9] at H
      have c9b0 := beq_iff_eq.mpr c9
      have c9b1 := bne_eq_false_iff_eq.mpr c9
      clear c9
      have H' := aM H
      clear H
      have p289 : 0 ≤ (x11_1 : Int) := of_decide_eq_true am
      have q289 : x11_1 < (l0.length : Int) := of_decide_eq_true am
      obtain ⟨ad289, e289, hx289_0⟩ := Kd.qqA HR0.out x11_1 p289 q289
      cases e289
      replace p289 := eq_true p289
      replace q289 := eq_true q289
      have p290 : 0 ≤ (x11_1 : Int) := of_decide_eq_true am
      have q290 : x11_1 < (l1.length : Int) := of_decide_eq_true am
      obtain ⟨ad290, e290, hx290_0⟩ := Kd.qqA HR1.out x11_1 p290 q290
      cases e290
      replace p290 := eq_true p290
      replace q290 := eq_true q290
      go_wp2_with (first | ((with_reducible refine qJ (f := 38) rfl ?_); refine qZ (some 26) rfl rfl Tryd.func38 (by kernel_rfl) rfl #[.int .i64 (rd l0 x11_1), .int .i64 (rd l1 x11_1)] rfl gA ?_; (with_reducible refine (qbA.calls (rd l0 x11_1) (rd l1 x11_1) t291 _ A8.out).mono ?_); rintro e w' ⟨rfl, ⟨nd, rfl⟩⟩; refine ⟨_, rfl, ?_⟩))
      go_roundg k1
      case measure => have := HK1.out; omega
      case rel => exact ⟨(wrap64 (x11_1 + 1)), sD, H', ⟨by have := HK1.out; omega⟩, dR⟩
     ·rw [if_neg c9] at H
      have c9b0 := beq_eq_false_iff_ne.mpr c9
      have c9b1 := bne_iff_ne.mpr c9
      obtain rfl := Option.some.inj H
      have p289 : 0 ≤ (x11_1 : Int) := of_decide_eq_true am
      have q289 : x11_1 < (l0.length : Int) := of_decide_eq_true am
      obtain ⟨ad289, e289, hx289_0⟩ := Kd.qqA HR0.out x11_1 p289 q289
      cases e289
      replace p289 := eq_true p289
      replace q289 := eq_true q289
      have p290 : 0 ≤ (x11_1 : Int) := of_decide_eq_true am
      have q290 : x11_1 < (l1.length : Int) := of_decide_eq_true am
      obtain ⟨ad290, e290, hx290_0⟩ := Kd.qqA HR1.out x11_1 p290 q290
      cases e290
      replace p290 := eq_true p290
      replace q290 := eq_true q290
      go_wp2_with (first | ((with_reducible refine qJ (f := 38) rfl ?_); refine qZ (some 26) rfl rfl Tryd.func38 (by kernel_rfl) rfl #[.int .i64 (rd l0 x11_1), .int .i64 (rd l1 x11_1)] rfl gA ?_; (with_reducible refine (qbA.calls (rd l0 x11_1) (rd l1 x11_1) t291 _ A8.out).mono ?_); rintro e w' ⟨rfl, ⟨nd, rfl⟩⟩; refine ⟨_, rfl, ?_⟩))
      go_ret
      exact ⟨by first | rfl | (simp; done) | (simp [*]; done), dR⟩
   ·rw [if_neg c3] at H
    have c3b0 := decide_eq_false c3
    clear c3
    by_cases c10 : (l0.length : Int) < (l1.length : Int)
    ·rw [if_pos c10] at H
     have c10b0 := decide_eq_true c10
     have c10b1 : decide (l0.length < l1.length) = true := decide_eq_true (Int.ofNat_lt.mp c10)
     clear c10
     obtain rfl := Option.some.inj H
     go_wp2
     go_ret
     exact ⟨by first | rfl | (simp; done) | (simp [*]; done), dR⟩
    ·rw [if_neg c10] at H
     have c10b0 := decide_eq_false c10
     have c10b1 : decide (l0.length < l1.length) = false := decide_eq_false (fun h => c10 (Int.ofNat_lt.mpr h))
     clear c10
     obtain rfl := Option.some.inj H
     go_wp2
     go_ret
     exact ⟨by first | rfl | (simp; done) | (simp [*]; done), dR⟩
end Go.Proofs.YtdhbimankkpllaaDoor.P
namespace Go.Proofs.YtdhbimankkpllaaDoor
open Go.RowKit Go.Proofs.YtdhbimankkpllaaDoor.P Go.Proofs.YtdhbimankkpllaaDoorW.PrintWords Go.Proofs.YtdhbimankkpllaaDoorW.PrintLast
set_option linter.unusedVariables false
set_option linter.unusedSimpArgs false
theorem cmp_eq (a b : Int) : qbA.f a b = some (cmpI a b) := by
 unfold qbA.f qn.f cmpI
 simp only [bne_self_eq_false, Option.bind_some]
 rw [if_neg (by decide), if_neg (by decide)]
 split
 ·rfl
 ·split <;> rfl
theorem rd_is (l : List Int) (i : Nat) {x : Int} (h : i < l.length) (e : l[i] = x) : rd l (i : Int) = x := by
 unfold rd
 rw [Int.toNat_natCast, List.getD_eq_getElem?_getD, List.getElem?_eq_getElem h, e]; rfl
theorem compare_loop (l m : List Int) (hl : l.length ≤ 100000) (hm : m.length ≤ 100000) : ∀ (u v : List Int) (i : Nat), l.drop i = u → m.drop i = v → i ≤ l.length → i ≤ m.length →
  Ev (fun k => qN.l0 k l m l (l.length : Int) (i : Int)) (lexI u v)
 | [], v, i, hu, hv, h1, h2 => by
  have hi := Sorts.qOB hu
  refine Ev.step (f := fun k => _) (fun k => by rw [qN.l0]) (Ev.neg (by omega) ?_)
  match v, hv with
  | [], hv =>
   have := Sorts.qOB hv
   exact Ev.neg (by omega) (Ev.now _)
  | b :: v, hv =>
   obtain ⟨h3, _, _⟩ := Sorts.qHB hv
   exact Ev.pos (by omega) (Ev.now _)
 | a :: u, v, i, hu, hv, h1, h2 => by
  obtain ⟨h3, e3, hu'⟩ := Sorts.qHB hu
  have ea := rd_is l i h3 e3
  have w : wrap64 ((i : Int) + 1) = ((i + 1 : Nat) : Int) := by unfold wrap64; omega
  clear hu e3
  refine Ev.step (f := fun k => _) (fun k => by rw [qN.l0]) ?_
  rw [w, ea]
  refine Ev.pos (by omega) (Ev.pos (by omega) (Ev.pos (by omega) ?_))
  match v, hv with
  | [], hv =>
   have := Sorts.qOB hv
   exact Ev.pos (by omega) (Ev.now _)
  | b :: v, hv =>
   obtain ⟨h4, e4, hv'⟩ := Sorts.qHB hv
   have eb := rd_is m i h4 e4
   have ih := compare_loop l m hl hm u v (i + 1) hu' hv' (by omega) (by omega)
   clear hv e4 hu' hv'
   rw [eb]
   refine Ev.neg (by omega) (Ev.pos (by omega) (Ev.bindc (cmp_eq a b) ?_))
   rw [lexI]
   by_cases h0 : cmpI a b = 0
   case pos => rw [if_pos h0]; exact Ev.pos h0 ih
   rw [if_neg h0]
   exact Ev.neg h0 (Ev.now _)
theorem compare_ev (l m : List Int) (hl : l.length ≤ 100000) (hm : m.length ≤ 100000) : Ev (fun k => qN.f k l m) (lexI l m) :=
 compare_loop l m hl hm l m 0 rfl rfl (by omega) (by omega)
end Go.Proofs.YtdhbimankkpllaaDoor
namespace Go.Proofs.YtdhbimankkpllaaDoor.P
open Go.RowKit Go.Proofs.YtdhbimankkpllaaDoorW.PrintWords Go.Proofs.YtdhbimankkpllaaDoorW.PrintLast Go.Proofs.YtdhbimankkpllaaDoorW.PrintMore
attribute [local go_sem] qg qe qq qp qX qW qf qd
set_option linter.unusedVariables false
set_option linter.unusedSimpArgs false
def qJA.l0 : Nat → Int → List Int → Int → Int → Option (Int)
 | 0, _, _, _, _ => none
 | k + 1, x3, x6, x7, x8 => if x8 < x7 then (if 0 ≤ x8 then (if x8 < (x6.length : Int) then (if (rd x6 x8) = x3 then (qJA.l0 k x3 x6 x7 (wrap64 (x8 + 1))) else (some (rd x6 x8))) else (none)) else (none)) else (some x3)
def qJA.f (k : Nat) (l0 : List Int) : Option (Int) := qJA.l0 k 0 l0 (l0.length : Int) 0
set_option maxHeartbeats 8000000 in
set_option maxRecDepth 100000 in
theorem qJA.calls (k : Nat) (A0 : Option Addr) (c0 : Nat) (l0 : List Int) (r : Int) (w : World) (hr0 : Kd.C (Kd.int .i64) w A0 l0.length l0) (hc0 : l0.length ≤ c0) (h : qJA.f k l0 = some r) :
  Calls Tryd.prog 37 #[.slice A0 l0.length c0] w fun e w' => e = .returned (.int .i64 r) ∧ Drawn0 w w' := by
 have HR0 := aM hr0
 have HC0 := aM hc0
 clear hr0 hc0
 have H : (qJA.l0 k 0 l0 (l0.length : Int) 0) = some r := h
 clear h
 have H' := aM H
 clear H
 go_enter Tryd.func37, Tryd.ntmps37
 go_wp2
 go_loopg [8] k (fun kq v8 w' => ∃ (x8_1 : Int), v8 = .int .i64 x8_1 ∧ Aside0 (qJA.l0 kq 0 l0 (l0.length : Int) x8_1 = some r) ∧ Aside0 (kq ≤ k) ∧ Drawn0 w w')
 case atStart => exact ⟨(0), sD, H', ⟨Nat.le_refl _⟩, dR⟩
 case round =>
  clear H'
  obtain ⟨x8_1, rfl, HA, HK1, ⟨m1, rfl⟩⟩ := hrel
  cases gk with
  | zero => exact absurd HA.out (by simp [qJA.l0])
  | succ k1 =>
   have H := HA.out
   clear HA
   simp only [qJA.l0] at H
   by_cases c2 : x8_1 < (l0.length : Int)
   ·rw [if_pos c2] at H
    have c2b0 := decide_eq_true c2
    clear c2
    by_cases c3 : 0 ≤ x8_1
    case neg => exact nN c3 H
    rw [if_pos c3] at H
    have c3b0 := decide_eq_true c3
    clear c3
    by_cases c4 : x8_1 < (l0.length : Int)
    case neg => exact nN c4 H
    rw [if_pos c4] at H
    have c4b0 := decide_eq_true c4
    clear c4
    by_cases c5 : (rd l0 x8_1) = 0
    ·rw [if_pos c5] at H
     have c5b0 := beq_iff_eq.mpr c5
     have c5b1 := bne_eq_false_iff_eq.mpr c5
     clear c5
     have H' := aM H
     clear H
     have p282 : 0 ≤ (x8_1 : Int) := of_decide_eq_true am
     have q282 : x8_1 < (l0.length : Int) := of_decide_eq_true am
     obtain ⟨ad282, e282, hx282_0⟩ := Kd.qqA HR0.out x8_1 p282 q282
     cases e282
     replace p282 := eq_true p282
     replace q282 := eq_true q282
     go_wp2
     go_roundg k1
     case measure => have := HK1.out; omega
     case rel => exact ⟨(wrap64 (x8_1 + 1)), sD, H', ⟨by have := HK1.out; omega⟩, dR⟩
    ·rw [if_neg c5] at H
     have c5b0 := beq_eq_false_iff_ne.mpr c5
     have c5b1 := bne_iff_ne.mpr c5
     obtain rfl := Option.some.inj H
     have p282 : 0 ≤ (x8_1 : Int) := of_decide_eq_true am
     have q282 : x8_1 < (l0.length : Int) := of_decide_eq_true am
     obtain ⟨ad282, e282, hx282_0⟩ := Kd.qqA HR0.out x8_1 p282 q282
     cases e282
     replace p282 := eq_true p282
     replace q282 := eq_true q282
     go_wp2
     go_ret
     exact ⟨by first | rfl | (simp; done) | (simp [*]; done), dR⟩
   ·rw [if_neg c2] at H
    have c2b0 := decide_eq_false c2
    clear c2
    obtain rfl := Option.some.inj H
    go_wp2
    go_ret
    exact ⟨by first | rfl | (simp; done) | (simp [*]; done), dR⟩
def qmA.f (k : Nat) (a0 : Int) (a1 : Int) : Option (Int) := (qJA.f k (([a0, a1] : List Int))).bind fun t286 => (some t286)
set_option maxHeartbeats 8000000 in
set_option maxRecDepth 100000 in
theorem qmA.calls (k : Nat) (a0 : Int) (a1 : Int) (r : Int) (w : World) (h : qmA.f k a0 a1 = some r) :
  Calls Tryd.prog 24 #[.int .i64 a0, .int .i64 a1] w fun e w' => e = .returned (.int .i64 r) ∧ Below w.heap.size w w' := by
 have HB := aM (Below.refl w.heap.size w)
 have H : ((qJA.f k (([a0, a1] : List Int))).bind fun t286 => (some t286)) = some r := h
 clear h
 obtain ⟨y283, hy283⟩ : ∃ y_ : List Int, y_ = (([a0, a1] : List Int)) := ⟨_, rfl⟩
 replace H : ((qJA.f k y283).bind fun t286 => (some t286)) = some r := by first | (rw [hy283]; with_reducible exact H) | (have H2_ := (Option.bind_some _ _).symm.trans H; rw [hy283]; with_reducible exact H2_) | (have H2_ := (Option.bind_some _ _).symm.trans H; with_reducible exact H2_) | with_reducible exact H | (rw [hy283]; exact H) | exact H
 have Ny283 := aM hy283
 clear hy283
 replace H := bO H
 obtain ⟨t286, A3, H⟩ := H
 obtain rfl := Option.some.inj H
 go_enter Tryd.func24, Tryd.ntmps24
 go_wp2_with (first | ((with_reducible refine qH (N := 7) rfl ?_); refine Kd.R_lit (Kd.int .i64) _ 3 ?hg (N := 7) ?hd (xs := ([a0, a1] : List Int)) (inner := [.int .i64 a0, .int .i64 a1]) (ok := fun _ => True) (okp := fun _ => True) ?hr ?hp (fun _ hk => hk) trivial (Below.refl _ _) (Nat.le_refl _) (by simp) ?_; (case hd => rfl); (case hg => rfl); (case hr => exact gS); (case hp => exact (Reps.one (show Kd.M (Kd.int .i64) _ _ _ a0 [.int .i64 a0] from rfl) (Reps.one (show Kd.M (Kd.int .i64) _ _ _ a1 [.int .i64 a1] from rfl) (Reps.none _ _)))); intro v284 w4 ho5 hb hg_ hnew_; clear hg_ hnew_; (first | rw [← Ny283.out] at ho5 | (simp only [Int.reduceToNat] at ho5; rw [← Ny283.out] at ho5)); have HO285 := aM (Kd.qSA ho5 (qk bl)); replace HB := aM (qB bl hb); clear hb ho5; obtain ⟨Ao6, co6, eo6⟩ := Kd.qx HO285.out; subst eo6) | ((with_reducible refine qJ (f := 37) rfl ?_); refine qZ (some 8) rfl rfl Tryd.func37 (by kernel_rfl) rfl #[.slice Ao6 y283.length co6] rfl gA ?_; (with_reducible refine (qJA.calls k _ _ y283 t286 _ ?side1 ?side2 A3.out).mono ?_); (case side1 => repeat (first | exact (Kd.qT HO285.out).2.2 | (with_reducible refine Kd.qPA ?_ _) | (with_reducible refine Kd.qOA ?_ _) | (with_reducible refine Kd.qkA ?_))); (case side2 => exact (Kd.qT HO285.out).2.1); rintro e w' ⟨rfl, ⟨nd, rfl⟩⟩; refine ⟨_, rfl, ?_⟩))
 go_ret
 exact ⟨sR, bl⟩
def qQA.f (k : Nat) (a0_0 : Int) (a0_1 : Int) (a0_2 : Int) (a0_3 : Int) (a0_4 : Int) (a0_5 : Int) (a1_0 : Int) (a1_1 : Int) (a1_2 : Int) (a1_3 : Int) (a1_4 : Int) (a1_5 : Int) : Option (Int) := (qBA.f a0_0 a0_1 a0_2 a0_3 a0_4 a0_5).bind fun t294 => ((qBA.f a1_0 a1_1 a1_2 a1_3 a1_4 a1_5).bind fun t297 => ((qN.f k t294 t297).bind fun t300 => (some t300)))
set_option maxHeartbeats 8000000 in
set_option maxRecDepth 100000 in
theorem qQA.calls (k : Nat) (a0_0 : Int) (a0_1 : Int) (a0_2 : Int) (a0_3 : Int) (a0_4 : Int) (a0_5 : Int) (a1_0 : Int) (a1_1 : Int) (a1_2 : Int) (a1_3 : Int) (a1_4 : Int) (a1_5 : Int) (r : Int) (w : World) (h : qQA.f k a0_0 a0_1 a0_2 a0_3 a0_4 a0_5 a1_0 a1_1 a1_2 a1_3 a1_4 a1_5 = some r) :
  Calls Tryd.prog 26 #[.agg #[.int .i64 a0_0, .int .i64 a0_1, .int .i64 a0_2, .int .i64 a0_3, .int .i64 a0_4, .int .i64 a0_5], .agg #[.int .i64 a1_0, .int .i64 a1_1, .int .i64 a1_2, .int .i64 a1_3, .int .i64 a1_4, .int .i64 a1_5]] w fun e w' => e = .returned (.int .i64 r) ∧ Below w.heap.size w w' := by
 have hu26 := Tryd.underlying26
 have HB := aM (Below.refl w.heap.size w)
 have H : ((qBA.f a0_0 a0_1 a0_2 a0_3 a0_4 a0_5).bind fun t294 => ((qBA.f a1_0 a1_1 a1_2 a1_3 a1_4 a1_5).bind fun t297 => ((qN.f k t294 t297).bind fun t300 => (some t300)))) = some r := h
 clear h
 replace H := bO H
 obtain ⟨t294, A3, H⟩ := H
 replace H := bO H
 obtain ⟨t297, A4, H⟩ := H
 replace H := bO H
 obtain ⟨t300, A5, H⟩ := H
 obtain rfl := Option.some.inj H
 go_enter Tryd.func26, Tryd.ntmps26
 try go_wp2_with (first | ((with_reducible refine qH (N := 2) rfl ?_); refine bE (N := 2) (cs := #[.int .i64 a0_0, .int .i64 a0_1, .int .i64 a0_2, .int .i64 a0_3, .int .i64 a0_4, .int .i64 a0_5]) (t := 26) ?_; intro gb292 hg w6 hbox hb; have BK292 := aM (hbox); have GW292 := aM ((gg hg)); have GE292 := aM ((gg hg)); replace HB := aM (qB bl hb); clear hb hbox hg) | ((with_reducible refine qH (N := 3) rfl ?_); refine bE (N := 3) (cs := #[.int .i64 a1_0, .int .i64 a1_1, .int .i64 a1_2, .int .i64 a1_3, .int .i64 a1_4, .int .i64 a1_5]) (t := 26) ?_; intro gb293 hg w7 hbox hb; have BK293 := aM (hbox); have GW293 := aM ((gg hg)); have GE293 := aM ((gg hg)); have NB292_293 := aM ((nl BK292 hg)); have NB293_292 := aM ((nr BK292 hg)); replace BK292 := aM (bb BK292 hb); replace HB := aM (qB bl hb); clear hb hbox hg))
 replace BK292 := aM (qE BK292.out)
 replace BK293 := aM (qE BK293.out)
 replace HB := aM (qm HB.out)
 refine qxA (n := 6) (S := fun w' => w'.cell? ⟨gb292, 0, none⟩ = some (.int .i64 a0_0) ∧ w'.cell? ⟨gb292, 1, none⟩ = some (.int .i64 a0_1) ∧ w'.cell? ⟨gb292, 2, none⟩ = some (.int .i64 a0_2) ∧ w'.cell? ⟨gb292, 3, none⟩ = some (.int .i64 a0_3) ∧ w'.cell? ⟨gb292, 4, none⟩ = some (.int .i64 a0_4) ∧ w'.cell? ⟨gb292, 5, none⟩ = some (.int .i64 a0_5) ∧ w'.cell? ⟨gb293, 0, none⟩ = some (.int .i64 a1_0) ∧ w'.cell? ⟨gb293, 1, none⟩ = some (.int .i64 a1_1) ∧ w'.cell? ⟨gb293, 2, none⟩ = some (.int .i64 a1_2) ∧ w'.cell? ⟨gb293, 3, none⟩ = some (.int .i64 a1_3) ∧ w'.cell? ⟨gb293, 4, none⟩ = some (.int .i64 a1_4) ∧ w'.cell? ⟨gb293, 5, none⟩ = some (.int .i64 a1_5)) (ds := []) #[false, false, false, false, false, false] (by kernel_rfl) rfl rfl ⟨bc BK292 0, bc BK292 1, bc BK292 2, bc BK292 3, bc BK292 4, bc BK292 5, bc BK293 0, bc BK293 1, bc BK293 2, bc BK293 3, bc BK293 4, bc BK293 5⟩ (fun hHeld => ?_)
 generalize w7.drew = w8 at BK292 BK293 HB hHeld ⊢
 refine take_ (i := 0) (N := some 5) (v := ?_) (a' := ?_) #[true, false, false, false, false, false] rfl rfl (by kernel_rfl) (fun _ _ _ h => h) (Or.inl ⟨by rfl, ?_⟩) hHeld ?_ ?_
 rotate_left
 ·rintro w' ⟨s0, s1, s2, s3, s4, s5, s6, s7, s8, s9, s10, s11⟩
  go_simp
  first | (with_reducible rfl) | (rw [if_neg (by simp only [ByteArray.size_extract, ByteArray.size_append] at * <;> omega)]; try with_reducible rfl)
 rotate_left
 ·simp only [Act.put, List.setIfInBounds_toArray, List.set_cons_zero, List.set_cons_succ, i64_w, i32_w]
  rfl
 refine take_ (i := 2) (N := some 7) (v := ?_) (a' := ?_) #[true, false, true, false, false, false] rfl rfl (by kernel_rfl) (fun _ _ _ h => h) (Or.inl ⟨by rfl, ?_⟩) hHeld ?_ ?_
 rotate_left
 ·rintro w' ⟨s0, s1, s2, s3, s4, s5, s6, s7, s8, s9, s10, s11⟩
  go_simp
  first | (with_reducible rfl) | (rw [if_neg (by simp only [ByteArray.size_extract, ByteArray.size_append] at * <;> omega)]; try with_reducible rfl)
 rotate_left
 ·simp only [Act.put, List.setIfInBounds_toArray, List.set_cons_zero, List.set_cons_succ, i64_w, i32_w]
  rfl
 refine one_ (i := 1) (N := some 6) #[true, true, true, false, false, false] rfl rfl (by kernel_rfl) (by decide) (fun K hK => ?_)
 refine goes_ Tryd.func39 (by kernel_rfl) rfl #[.agg #[.int .i64 a0_0, .int .i64 a0_1, .int .i64 a0_2, .int .i64 a0_3, .int .i64 a0_4, .int .i64 a0_5]] (by rfl) rfl rfl gA ?_
 with_reducible refine (qBA.calls a0_0 a0_1 a0_2 a0_3 a0_4 a0_5 t294 _ A3.out).mono ?_
 rintro e w9 ⟨v295, rfl, ho0, hb⟩
 refine ⟨_, rfl, ?_⟩
 have HO296 := aM (Kd.qSA ho0 (qk bl))
 replace BK292 := aM (bb BK292 hb)
 replace BK293 := aM (bb BK293 hb)
 replace HB := aM (qB bl hb); (try clear hb); (try clear hb2); (try clear hk); (try clear hi); (try clear ho0)
 refine hK.out _ _ ⟨bc BK292 0, bc BK292 1, bc BK292 2, bc BK292 3, bc BK292 4, bc BK292 5, bc BK293 0, bc BK293 1, bc BK293 2, bc BK293 3, bc BK293 4, bc BK293 5⟩ (fun hHeld => ?_)
 clear hK K
 refine norm_ (a' := ?_) ?_ ?_
 rotate_left
 ·show Act.put _ (some 6) _ = _
  simp only [Act.put, List.setIfInBounds_toArray, List.set_cons_zero, List.set_cons_succ, i64_w, i32_w]
  rfl
 refine one_ (i := 3) (N := some 8) #[true, true, true, true, false, false] rfl rfl (by kernel_rfl) (by decide) (fun K hK => ?_)
 refine goes_ Tryd.func39 (by kernel_rfl) rfl #[.agg #[.int .i64 a1_0, .int .i64 a1_1, .int .i64 a1_2, .int .i64 a1_3, .int .i64 a1_4, .int .i64 a1_5]] (by rfl) rfl rfl gA ?_
 with_reducible refine (qBA.calls a1_0 a1_1 a1_2 a1_3 a1_4 a1_5 t297 _ A4.out).mono ?_
 rintro e w10 ⟨v298, rfl, ho0, hb⟩
 refine ⟨_, rfl, ?_⟩
 have HO299 := aM (Kd.qSA (Kd.qtC ho0 (Kd.R_lt (rR HO296))) (qk bl))
 replace HO296 := aM (Kd.qMC (rR HO296) (Kd.qwC ho0) hb)
 replace BK292 := aM (bb BK292 hb)
 replace BK293 := aM (bb BK293 hb)
 replace HB := aM (qB bl hb); (try clear hb); (try clear hb2); (try clear hk); (try clear hi); (try clear ho0)
 obtain ⟨Ao11, co11, eo11⟩ := Kd.qx HO296.out
 (first | subst eo11 | (injection eo11 with f1_ f2_ f3_; have f4_ := f1_.symm; have f5_ := f3_.symm; clear f1_ f2_ f3_; subst f4_; subst f5_))
 obtain ⟨Ao12, co12, eo12⟩ := Kd.qx HO299.out
 (first | subst eo12 | (injection eo12 with f1_ f2_ f3_; have f4_ := f1_.symm; have f5_ := f3_.symm; clear f1_ f2_ f3_; subst f4_; subst f5_))
 refine hK.out _ _ ⟨bc BK292 0, bc BK292 1, bc BK292 2, bc BK292 3, bc BK292 4, bc BK292 5, bc BK293 0, bc BK293 1, bc BK293 2, bc BK293 3, bc BK293 4, bc BK293 5⟩ (fun hHeld => ?_)
 clear hK K
 refine norm_ (a' := ?_) ?_ ?_
 rotate_left
 ·show Act.put _ (some 8) _ = _
  simp only [Act.put, List.setIfInBounds_toArray, List.set_cons_zero, List.set_cons_succ, i64_w, i32_w]
  rfl
 refine one_ (i := 4) (N := some 9) #[true, true, true, true, true, false] rfl rfl (by kernel_rfl) (by decide) (fun K hK => ?_)
 refine goes_ Tryd.func25 (by kernel_rfl) rfl #[.slice Ao11 t294.length co11, .slice Ao12 t297.length co12] (by rfl) rfl rfl gA ?_
 with_reducible refine (qN.calls k _ _ t294 _ _ t297 t300 _ ?side1 ?side2 ?side3 ?side4 A5.out).mono ?_
 (case side1 => repeat (first | exact (Kd.qT HO296.out).2.2 | (with_reducible refine Kd.qPA ?_ _) | (with_reducible refine Kd.qOA ?_ _) | (with_reducible refine Kd.qkA ?_)))
 (case side2 => exact (Kd.qT HO296.out).2.1)
 (case side3 => repeat (first | exact (Kd.qT HO299.out).2.2 | (with_reducible refine Kd.qPA ?_ _) | (with_reducible refine Kd.qOA ?_ _) | (with_reducible refine Kd.qkA ?_)))
 (case side4 => exact (Kd.qT HO299.out).2.1)
 rintro e w' ⟨rfl, ⟨nd, rfl⟩⟩
 refine ⟨_, rfl, ?_⟩
 refine hK.out _ _ ⟨bc BK292 0, bc BK292 1, bc BK292 2, bc BK292 3, bc BK292 4, bc BK292 5, bc BK293 0, bc BK293 1, bc BK293 2, bc BK293 3, bc BK293 4, bc BK293 5⟩ (fun hHeld => ?_)
 clear hK K
 refine norm_ (a' := ?_) ?_ ?_
 rotate_left
 ·show Act.put _ (some 9) _ = _
  simp only [Act.put, List.setIfInBounds_toArray, List.set_cons_zero, List.set_cons_succ, i64_w, i32_w]
  rfl
 refine pure_ (i := 5) (N := some 4) (v := ?_) (a' := ?_) #[true, true, true, true, true, true] rfl rfl (by kernel_rfl) (fun _ _ _ h => h) (Or.inl ⟨by rfl, ?_⟩) ?_ ?_
 rotate_left
 ·intro w'
  go_simp
  first | (with_reducible rfl) | (rw [if_neg (by simp only [ByteArray.size_extract, ByteArray.size_append] at * <;> omega)]; try with_reducible rfl)
 rotate_left
 ·simp only [Act.put, List.setIfInBounds_toArray, List.set_cons_zero, List.set_cons_succ, i64_w, i32_w]
  rfl
 refine done_ (by kernel_rfl) ?_
 try go_wp2
 go_ret
 exact ⟨sR, bl⟩
def ql.f (k : Nat) (a0_0 : Int) (a0_1 : Int) (a0_2 : Int) (a0_3 : Int) (a0_4 : Int) (a0_5 : Int) (a0_6 : Int) (a0_7 : Int) (a1_0 : Int) (a1_1 : Int) (a1_2 : Int) (a1_3 : Int) (a1_4 : Int) (a1_5 : Int) (a1_6 : Int) (a1_7 : Int) : Option (Int) := (qN.f k (([a0_1, a0_0] : List Int)) (([a1_1, a1_0] : List Int))).bind fun t309 => ((qQA.f k a0_2 a0_3 a0_4 a0_5 a0_6 a0_7 a1_2 a1_3 a1_4 a1_5 a1_6 a1_7).bind fun t310 => ((qmA.f k t309 t310).bind fun t311 => (some t311)))
def ql.T1 : Bool × List (List Nat × List Nat) := (true, [([], []), ([0], [0]), ([], []), ([2], [2]), ([1, 3], [1, 3]), ([], []), ([5], [5]), ([], []), ([7], [7]), ([6, 8], [6, 8]), ([4, 9], [4, 9]), ([], []), ([11], [11]), ([], []), ([13], [13]), ([12, 14, 10], [12, 14]), ([10, 15, 15], [10, 15]), ([16, 16, 0, 1, 2, 3, 4, 5, 6, 7, 8, 9, 10, 11, 12, 13, 14, 15, 16], [16])])
def ql.B1 : List Nat := [0, 1, 0, 4, 15, 0, 32, 0, 128, 480, 1023, 0, 2048, 0, 8192, 32767, 65535, 131071]
theorem ql.tab1 : rtab .any (opsOf Tryd.f13 1) = ql.T1 := by kernel_rfl
theorem ql.bits1 : waitsOk ql.T1.2 ql.B1 = true := by kernel_rfl
set_option maxHeartbeats 8000000 in
set_option maxRecDepth 100000 in
theorem ql.calls (k : Nat) (a0_0 : Int) (a0_1 : Int) (a0_2 : Int) (a0_3 : Int) (a0_4 : Int) (a0_5 : Int) (a0_6 : Int) (a0_7 : Int) (a1_0 : Int) (a1_1 : Int) (a1_2 : Int) (a1_3 : Int) (a1_4 : Int) (a1_5 : Int) (a1_6 : Int) (a1_7 : Int) (r : Int) (w : World) (h : ql.f k a0_0 a0_1 a0_2 a0_3 a0_4 a0_5 a0_6 a0_7 a1_0 a1_1 a1_2 a1_3 a1_4 a1_5 a1_6 a1_7 = some r) :
  Calls Tryd.prog 13 #[.agg #[.int .i64 a0_0, .int .i64 a0_1, .int .i64 a0_2, .int .i64 a0_3, .int .i64 a0_4, .int .i64 a0_5, .int .i64 a0_6, .int .i64 a0_7], .agg #[.int .i64 a1_0, .int .i64 a1_1, .int .i64 a1_2, .int .i64 a1_3, .int .i64 a1_4, .int .i64 a1_5, .int .i64 a1_6, .int .i64 a1_7]] w fun e w' => e = .returned (.int .i64 r) ∧ Below w.heap.size w w' := by
 have hu28 := Tryd.underlying28
 have hu26 := Tryd.underlying26
 have HB := aM (Below.refl w.heap.size w)
 have H : ((qN.f k (([a0_1, a0_0] : List Int)) (([a1_1, a1_0] : List Int))).bind fun t309 => ((qQA.f k a0_2 a0_3 a0_4 a0_5 a0_6 a0_7 a1_2 a1_3 a1_4 a1_5 a1_6 a1_7).bind fun t310 => ((qmA.f k t309 t310).bind fun t311 => (some t311)))) = some r := h
 clear h
 obtain ⟨y303, hy303⟩ : ∃ y_ : List Int, y_ = (([a0_1, a0_0] : List Int)) := ⟨_, rfl⟩
 replace H : ((qN.f k y303 (([a1_1, a1_0] : List Int))).bind fun t309 => ((qQA.f k a0_2 a0_3 a0_4 a0_5 a0_6 a0_7 a1_2 a1_3 a1_4 a1_5 a1_6 a1_7).bind fun t310 => ((qmA.f k t309 t310).bind fun t311 => (some t311)))) = some r := by first | (rw [hy303]; with_reducible exact H) | (have H2_ := (Option.bind_some _ _).symm.trans H; rw [hy303]; with_reducible exact H2_) | (have H2_ := (Option.bind_some _ _).symm.trans H; with_reducible exact H2_) | with_reducible exact H | (rw [hy303]; exact H) | exact H
 have Ny303 := aM hy303
 clear hy303
 obtain ⟨y306, hy306⟩ : ∃ y_ : List Int, y_ = (([a1_1, a1_0] : List Int)) := ⟨_, rfl⟩
 replace H : ((qN.f k y303 y306).bind fun t309 => ((qQA.f k a0_2 a0_3 a0_4 a0_5 a0_6 a0_7 a1_2 a1_3 a1_4 a1_5 a1_6 a1_7).bind fun t310 => ((qmA.f k t309 t310).bind fun t311 => (some t311)))) = some r := by first | (rw [hy306]; with_reducible exact H) | (have H2_ := (Option.bind_some _ _).symm.trans H; rw [hy306]; with_reducible exact H2_) | (have H2_ := (Option.bind_some _ _).symm.trans H; with_reducible exact H2_) | with_reducible exact H | (rw [hy306]; exact H) | exact H
 have Ny306 := aM hy306
 clear hy306
 replace H := bO H
 obtain ⟨t309, A3, H⟩ := H
 replace H := bO H
 obtain ⟨t310, A4, H⟩ := H
 replace H := bO H
 obtain ⟨t311, A5, H⟩ := H
 obtain rfl := Option.some.inj H
 go_enter Tryd.func13, Tryd.ntmps13
 try go_wp2_with (first | ((with_reducible refine qH (N := 2) rfl ?_); refine bE (N := 2) (cs := #[.int .i64 a0_0, .int .i64 a0_1, .int .i64 a0_2, .int .i64 a0_3, .int .i64 a0_4, .int .i64 a0_5, .int .i64 a0_6, .int .i64 a0_7]) (t := 28) ?_; intro gb301 hg w6 hbox hb; have BK301 := aM (hbox); have GW301 := aM ((gg hg)); have GE301 := aM ((gg hg)); replace HB := aM (qB bl hb); clear hb hbox hg) | ((with_reducible refine qH (N := 3) rfl ?_); refine bE (N := 3) (cs := #[.int .i64 a1_0, .int .i64 a1_1, .int .i64 a1_2, .int .i64 a1_3, .int .i64 a1_4, .int .i64 a1_5, .int .i64 a1_6, .int .i64 a1_7]) (t := 28) ?_; intro gb302 hg w7 hbox hb; have BK302 := aM (hbox); have GW302 := aM ((gg hg)); have GE302 := aM ((gg hg)); have NB301_302 := aM ((nl BK301 hg)); have NB302_301 := aM ((nr BK301 hg)); replace BK301 := aM (bb BK301 hb); replace HB := aM (qB bl hb); clear hb hbox hg))
 replace BK301 := aM (qE BK301.out)
 replace BK302 := aM (qE BK302.out)
 replace HB := aM (qm HB.out)
 refine qxA (n := 18) (S := fun w' => w'.cell? ⟨gb301, 0, none⟩ = some (.int .i64 a0_0) ∧ w'.cell? ⟨gb301, 1, none⟩ = some (.int .i64 a0_1) ∧ w'.cell? ⟨gb301, 2, none⟩ = some (.int .i64 a0_2) ∧ w'.cell? ⟨gb301, 3, none⟩ = some (.int .i64 a0_3) ∧ w'.cell? ⟨gb301, 4, none⟩ = some (.int .i64 a0_4) ∧ w'.cell? ⟨gb301, 5, none⟩ = some (.int .i64 a0_5) ∧ w'.cell? ⟨gb301, 6, none⟩ = some (.int .i64 a0_6) ∧ w'.cell? ⟨gb301, 7, none⟩ = some (.int .i64 a0_7) ∧ w'.cell? ⟨gb302, 0, none⟩ = some (.int .i64 a1_0) ∧ w'.cell? ⟨gb302, 1, none⟩ = some (.int .i64 a1_1) ∧ w'.cell? ⟨gb302, 2, none⟩ = some (.int .i64 a1_2) ∧ w'.cell? ⟨gb302, 3, none⟩ = some (.int .i64 a1_3) ∧ w'.cell? ⟨gb302, 4, none⟩ = some (.int .i64 a1_4) ∧ w'.cell? ⟨gb302, 5, none⟩ = some (.int .i64 a1_5) ∧ w'.cell? ⟨gb302, 6, none⟩ = some (.int .i64 a1_6) ∧ w'.cell? ⟨gb302, 7, none⟩ = some (.int .i64 a1_7)) (ds := []) #[false, false, false, false, false, false, false, false, false, false, false, false, false, false, false, false, false, false] (by kernel_rfl) rfl rfl ⟨bc BK301 0, bc BK301 1, bc BK301 2, bc BK301 3, bc BK301 4, bc BK301 5, bc BK301 6, bc BK301 7, bc BK302 0, bc BK302 1, bc BK302 2, bc BK302 3, bc BK302 4, bc BK302 5, bc BK302 6, bc BK302 7⟩ (fun hHeld => ?_); refine qKA ql.tab1 ql.bits1 (fun HT_ HW_ => ?_)
 generalize w7.drew = w8 at BK301 BK302 HB hHeld ⊢
 refine pS (i := 0) (N := some 5) #[true, false, false, false, false, false, false, false, false, false, false, false, false, false, false, false, false, false] HT_ ?_
 refine pS (i := 2) (N := some 7) #[true, false, true, false, false, false, false, false, false, false, false, false, false, false, false, false, false, false] HT_ ?_
 refine pS (i := 5) (N := some 10) #[true, false, true, false, false, true, false, false, false, false, false, false, false, false, false, false, false, false] HT_ ?_
 refine pS (i := 7) (N := some 12) #[true, false, true, false, false, true, false, true, false, false, false, false, false, false, false, false, false, false] HT_ ?_
 refine pS (i := 11) (N := some 16) #[true, false, true, false, false, true, false, true, false, false, false, true, false, false, false, false, false, false] HT_ ?_
 refine pS (i := 13) (N := some 18) #[true, false, true, false, false, true, false, true, false, false, false, true, false, true, false, false, false, false] HT_ ?_
 refine tS (i := 1) (N := some 6) #[true, true, true, false, false, true, false, true, false, false, false, true, false, true, false, false, false, false] HT_ HW_ hHeld ?_
 refine tS (i := 3) (N := some 8) #[true, true, true, true, false, true, false, true, false, false, false, true, false, true, false, false, false, false] HT_ HW_ hHeld ?_
 refine tS (i := 6) (N := some 11) #[true, true, true, true, false, true, true, true, false, false, false, true, false, true, false, false, false, false] HT_ HW_ hHeld ?_
 refine tS (i := 8) (N := some 13) #[true, true, true, true, false, true, true, true, true, false, false, true, false, true, false, false, false, false] HT_ HW_ hHeld ?_
 refine tS (i := 12) (N := some 17) #[true, true, true, true, false, true, true, true, true, false, false, true, true, true, false, false, false, false] HT_ HW_ hHeld ?_
 refine tS (i := 14) (N := some 19) #[true, true, true, true, false, true, true, true, true, false, false, true, true, true, true, false, false, false] HT_ HW_ hHeld ?_
 refine join_ (σ := Value × Value) 4 #[true, true, true, true, true, true, true, true, true, true, false, true, true, true, true, false, false, false] (fun s_ => [(9, s_.1), (14, s_.2)]) (fun s_ w' => (w'.cell? ⟨gb301, 0, none⟩ = some (.int .i64 a0_0) ∧ w'.cell? ⟨gb301, 1, none⟩ = some (.int .i64 a0_1) ∧ w'.cell? ⟨gb301, 2, none⟩ = some (.int .i64 a0_2) ∧ w'.cell? ⟨gb301, 3, none⟩ = some (.int .i64 a0_3) ∧ w'.cell? ⟨gb301, 4, none⟩ = some (.int .i64 a0_4) ∧ w'.cell? ⟨gb301, 5, none⟩ = some (.int .i64 a0_5) ∧ w'.cell? ⟨gb301, 6, none⟩ = some (.int .i64 a0_6) ∧ w'.cell? ⟨gb301, 7, none⟩ = some (.int .i64 a0_7) ∧ w'.cell? ⟨gb302, 0, none⟩ = some (.int .i64 a1_0) ∧ w'.cell? ⟨gb302, 1, none⟩ = some (.int .i64 a1_1) ∧ w'.cell? ⟨gb302, 2, none⟩ = some (.int .i64 a1_2) ∧ w'.cell? ⟨gb302, 3, none⟩ = some (.int .i64 a1_3) ∧ w'.cell? ⟨gb302, 4, none⟩ = some (.int .i64 a1_4) ∧ w'.cell? ⟨gb302, 5, none⟩ = some (.int .i64 a1_5) ∧ w'.cell? ⟨gb302, 6, none⟩ = some (.int .i64 a1_6) ∧ w'.cell? ⟨gb302, 7, none⟩ = some (.int .i64 a1_7)) ∧ (Kd.R (Kd.int .i64) 3 w' w.heap.size (fun k_ => some k_ ≠ (s_.2 : Value).ownBlock) s_.1 y303) ∧ (Kd.R (Kd.int .i64) 3 w' w.heap.size (fun k_ => some k_ ≠ (s_.1 : Value).ownBlock) s_.2 y306) ∧ (w'.heap[gb301]? = some (.cells #[.int .i64 a0_0, .int .i64 a0_1, .int .i64 a0_2, .int .i64 a0_3, .int .i64 a0_4, .int .i64 a0_5, .int .i64 a0_6, .int .i64 a0_7] 28 (0, 0))) ∧ (w'.heap[gb302]? = some (.cells #[.int .i64 a1_0, .int .i64 a1_1, .int .i64 a1_2, .int .i64 a1_3, .int .i64 a1_4, .int .i64 a1_5, .int .i64 a1_6, .int .i64 a1_7] 28 (0, 0))) ∧ (Below w.heap.size w w')) ?_ ?_
 rotate_left
 ·intro hCont
  refine two_ (i := 4) (j := 9) (Ni := some 9) (Nj := some 14) #[true, true, true, true, true, true, true, true, true, false, false, true, true, true, true, false, false, false] #[true, true, true, true, false, true, true, true, true, true, false, true, true, true, true, false, false, false] rfl rfl rfl rfl (qxC HT_.out (by kernel_rfl)) (by decide) (by decide) (fun K hK => ?_) (fun K hK => ?_)
  ·skip
   refine Kd.qeA (Kd.int .i64) _ 3 ?hg (N := 9) ?hd (xs := ([a0_1, a0_0] : List Int)) (inner := [.int .i64 a0_1, .int .i64 a0_0]) (ok := fun _ => True) (okp := fun _ => True) ?hr ?hp (fun _ hk => hk) trivial (Below.refl _ _) (Nat.le_refl _) (by simp) ?_; (case hd => rfl); (case hg => rfl); (case hr => exact gS); (case hp => exact (Reps.one (show Kd.M (Kd.int .i64) _ _ _ a0_1 [.int .i64 a0_1] from rfl) (Reps.one (show Kd.M (Kd.int .i64) _ _ _ a0_0 [.int .i64 a0_0] from rfl) (Reps.none _ _))))
   intro v304 w9 ho10 hb hg_ hnew_
   clear hg_ hnew_
   (first | rw [← Ny303.out] at ho10 | (simp only [Int.reduceToNat] at ho10; rw [← Ny303.out] at ho10))
   have HO305 := aM (Kd.qSA ho10 (qk bl))
   replace BK301 := aM (bb BK301 hb)
   replace BK302 := aM (bb BK302 hb)
   replace HB := aM (qB bl hb)
   clear hb ho10
   refine hK.out _ _ ⟨bc BK301 0, bc BK301 1, bc BK301 2, bc BK301 3, bc BK301 4, bc BK301 5, bc BK301 6, bc BK301 7, bc BK302 0, bc BK302 1, bc BK302 2, bc BK302 3, bc BK302 4, bc BK302 5, bc BK302 6, bc BK302 7⟩ (fun hHeld => ?_)
   clear hK K
   refine norm_ (a' := ?_) ?_ ?_
   rotate_left
   ·show Act.put _ (some 9) _ = _
    simp only [Act.put, List.setIfInBounds_toArray, List.set_cons_zero, List.set_cons_succ, i64_w, i32_w]
    rfl
   refine one_ (i := 9) (N := some 14) #[true, true, true, true, true, true, true, true, true, true, false, true, true, true, true, false, false, false] rfl rfl (qDB HT_.out (by kernel_rfl)) (by decide) (fun K hK => ?_)
   refine Kd.qeA (Kd.int .i64) _ 3 ?hg (N := 14) ?hd (xs := ([a1_1, a1_0] : List Int)) (inner := [.int .i64 a1_1, .int .i64 a1_0]) (ok := fun _ => True) (okp := fun _ => True) ?hr ?hp (fun _ hk => hk) trivial (Below.refl _ _) (Nat.le_refl _) (by simp) ?_; (case hd => rfl); (case hg => rfl); (case hr => exact gS); (case hp => exact (Reps.one (show Kd.M (Kd.int .i64) _ _ _ a1_1 [.int .i64 a1_1] from rfl) (Reps.one (show Kd.M (Kd.int .i64) _ _ _ a1_0 [.int .i64 a1_0] from rfl) (Reps.none _ _))))
   intro v307 w11 ho12 hb hg_ hnew_
   clear hg_ hnew_
   (first | rw [← Ny306.out] at ho12 | (simp only [Int.reduceToNat] at ho12; rw [← Ny306.out] at ho12))
   have HO308 := aM (Kd.qSA (Kd.qtC ho12 (Kd.R_lt (rR HO305))) (qk bl))
   replace HO305 := aM (Kd.qMC (rR HO305) (Kd.qwC ho12) hb)
   replace BK301 := aM (bb BK301 hb)
   replace BK302 := aM (bb BK302 hb)
   replace HB := aM (qB bl hb)
   clear hb ho12
   refine hK.out _ _ ⟨bc BK301 0, bc BK301 1, bc BK301 2, bc BK301 3, bc BK301 4, bc BK301 5, bc BK301 6, bc BK301 7, bc BK302 0, bc BK302 1, bc BK302 2, bc BK302 3, bc BK302 4, bc BK302 5, bc BK302 6, bc BK302 7⟩ (fun hHeld => ?_)
   clear hK K
   refine norm_ (a' := ?_) ?_ ?_
   rotate_left
   ·show Act.put _ (some 14) _ = _
    simp only [Act.put, List.setIfInBounds_toArray, List.set_cons_zero, List.set_cons_succ, i64_w, i32_w]
    rfl
   exact norm_ (by simp only [putAll, Act.put, List.setIfInBounds_toArray, List.set_cons_zero, List.set_cons_succ]) (hCont (v304, v307) _ ⟨hHeld, (by (with_reducible repeat (first | apply Kd.qo | apply Kd.qr | apply Kd.qc)); exact Kd.qAA HO305.out (fun _ hk => hk.2)), (by (with_reducible repeat (first | apply Kd.qo | apply Kd.qr | apply Kd.qc)); exact Kd.qAA HO308.out (fun _ hk => hk.2)), (rB BK301), (rB BK302), bl⟩)
  ·skip
   refine Kd.qeA (Kd.int .i64) _ 3 ?hg (N := 14) ?hd (xs := ([a1_1, a1_0] : List Int)) (inner := [.int .i64 a1_1, .int .i64 a1_0]) (ok := fun _ => True) (okp := fun _ => True) ?hr ?hp (fun _ hk => hk) trivial (Below.refl _ _) (Nat.le_refl _) (by simp) ?_; (case hd => rfl); (case hg => rfl); (case hr => exact gS); (case hp => exact (Reps.one (show Kd.M (Kd.int .i64) _ _ _ a1_1 [.int .i64 a1_1] from rfl) (Reps.one (show Kd.M (Kd.int .i64) _ _ _ a1_0 [.int .i64 a1_0] from rfl) (Reps.none _ _))))
   intro v307 w9 ho10 hb hg_ hnew_
   clear hg_ hnew_
   (first | rw [← Ny306.out] at ho10 | (simp only [Int.reduceToNat] at ho10; rw [← Ny306.out] at ho10))
   have HO308 := aM (Kd.qSA ho10 (qk bl))
   replace BK301 := aM (bb BK301 hb)
   replace BK302 := aM (bb BK302 hb)
   replace HB := aM (qB bl hb)
   clear hb ho10
   refine hK.out _ _ ⟨bc BK301 0, bc BK301 1, bc BK301 2, bc BK301 3, bc BK301 4, bc BK301 5, bc BK301 6, bc BK301 7, bc BK302 0, bc BK302 1, bc BK302 2, bc BK302 3, bc BK302 4, bc BK302 5, bc BK302 6, bc BK302 7⟩ (fun hHeld => ?_)
   clear hK K
   refine norm_ (a' := ?_) ?_ ?_
   rotate_left
   ·show Act.put _ (some 14) _ = _
    simp only [Act.put, List.setIfInBounds_toArray, List.set_cons_zero, List.set_cons_succ, i64_w, i32_w]
    rfl
   refine one_ (i := 4) (N := some 9) #[true, true, true, true, true, true, true, true, true, true, false, true, true, true, true, false, false, false] rfl rfl (qDB HT_.out (by kernel_rfl)) (by decide) (fun K hK => ?_)
   refine Kd.qeA (Kd.int .i64) _ 3 ?hg (N := 9) ?hd (xs := ([a0_1, a0_0] : List Int)) (inner := [.int .i64 a0_1, .int .i64 a0_0]) (ok := fun _ => True) (okp := fun _ => True) ?hr ?hp (fun _ hk => hk) trivial (Below.refl _ _) (Nat.le_refl _) (by simp) ?_; (case hd => rfl); (case hg => rfl); (case hr => exact gS); (case hp => exact (Reps.one (show Kd.M (Kd.int .i64) _ _ _ a0_1 [.int .i64 a0_1] from rfl) (Reps.one (show Kd.M (Kd.int .i64) _ _ _ a0_0 [.int .i64 a0_0] from rfl) (Reps.none _ _))))
   intro v304 w11 ho12 hb hg_ hnew_
   clear hg_ hnew_
   (first | rw [← Ny303.out] at ho12 | (simp only [Int.reduceToNat] at ho12; rw [← Ny303.out] at ho12))
   have HO305 := aM (Kd.qSA (Kd.qtC ho12 (Kd.R_lt (rR HO308))) (qk bl))
   replace HO308 := aM (Kd.qMC (rR HO308) (Kd.qwC ho12) hb)
   replace BK301 := aM (bb BK301 hb)
   replace BK302 := aM (bb BK302 hb)
   replace HB := aM (qB bl hb)
   clear hb ho12
   refine hK.out _ _ ⟨bc BK301 0, bc BK301 1, bc BK301 2, bc BK301 3, bc BK301 4, bc BK301 5, bc BK301 6, bc BK301 7, bc BK302 0, bc BK302 1, bc BK302 2, bc BK302 3, bc BK302 4, bc BK302 5, bc BK302 6, bc BK302 7⟩ (fun hHeld => ?_)
   clear hK K
   refine norm_ (a' := ?_) ?_ ?_
   rotate_left
   ·show Act.put _ (some 9) _ = _
    simp only [Act.put, List.setIfInBounds_toArray, List.set_cons_zero, List.set_cons_succ, i64_w, i32_w]
    rfl
   exact norm_ (by simp only [putAll, Act.put, List.setIfInBounds_toArray, List.set_cons_zero, List.set_cons_succ]) (hCont (v304, v307) _ ⟨hHeld, (by (with_reducible repeat (first | apply Kd.qo | apply Kd.qr | apply Kd.qc)); exact Kd.qAA HO305.out (fun _ hk => hk.2)), (by (with_reducible repeat (first | apply Kd.qo | apply Kd.qr | apply Kd.qc)); exact Kd.qAA HO308.out (fun _ hk => hk.2)), (rB BK301), (rB BK302), bl⟩)
 rintro ⟨v304, v307⟩ w13 ⟨hS_, h0_, h1_, h2_, h3_, h4_⟩
 have n0_ : Aside0 (Kd.R (Kd.int .i64) 3 w13 w.heap.size (fun k_ => some k_ ≠ (v307 : Value).ownBlock) v304 y303) := ⟨h0_⟩
 have n1_ : Aside0 (Kd.R (Kd.int .i64) 3 w13 w.heap.size (fun k_ => some k_ ≠ (v304 : Value).ownBlock) v307 y306) := ⟨h1_⟩
 have n2_ : Aside0 (w13.heap[gb301]? = some (.cells #[.int .i64 a0_0, .int .i64 a0_1, .int .i64 a0_2, .int .i64 a0_3, .int .i64 a0_4, .int .i64 a0_5, .int .i64 a0_6, .int .i64 a0_7] 28 (0, 0))) := ⟨h2_⟩
 have n3_ : Aside0 (w13.heap[gb302]? = some (.cells #[.int .i64 a1_0, .int .i64 a1_1, .int .i64 a1_2, .int .i64 a1_3, .int .i64 a1_4, .int .i64 a1_5, .int .i64 a1_6, .int .i64 a1_7] 28 (0, 0))) := ⟨h3_⟩
 have n4_ : Aside0 (Below w.heap.size w w13) := ⟨h4_⟩
 clear BK301 BK302 HB h0_ h1_ h2_ h3_ h4_
 have HO305 := n0_
 have HO308 := n1_
 have BK301 := n2_
 have BK302 := n3_
 have HB := n4_
 clear n0_ n1_ n2_ n3_ n4_
 have hHeld : w13.cell? ⟨gb301, 0, none⟩ = some (.int .i64 a0_0) ∧ w13.cell? ⟨gb301, 1, none⟩ = some (.int .i64 a0_1) ∧ w13.cell? ⟨gb301, 2, none⟩ = some (.int .i64 a0_2) ∧ w13.cell? ⟨gb301, 3, none⟩ = some (.int .i64 a0_3) ∧ w13.cell? ⟨gb301, 4, none⟩ = some (.int .i64 a0_4) ∧ w13.cell? ⟨gb301, 5, none⟩ = some (.int .i64 a0_5) ∧ w13.cell? ⟨gb301, 6, none⟩ = some (.int .i64 a0_6) ∧ w13.cell? ⟨gb301, 7, none⟩ = some (.int .i64 a0_7) ∧ w13.cell? ⟨gb302, 0, none⟩ = some (.int .i64 a1_0) ∧ w13.cell? ⟨gb302, 1, none⟩ = some (.int .i64 a1_1) ∧ w13.cell? ⟨gb302, 2, none⟩ = some (.int .i64 a1_2) ∧ w13.cell? ⟨gb302, 3, none⟩ = some (.int .i64 a1_3) ∧ w13.cell? ⟨gb302, 4, none⟩ = some (.int .i64 a1_4) ∧ w13.cell? ⟨gb302, 5, none⟩ = some (.int .i64 a1_5) ∧ w13.cell? ⟨gb302, 6, none⟩ = some (.int .i64 a1_6) ∧ w13.cell? ⟨gb302, 7, none⟩ = some (.int .i64 a1_7) := hS_
 obtain ⟨Ao14, co14, eo14⟩ := Kd.qx HO305.out
 (first | subst eo14 | (injection eo14 with f1_ f2_ f3_; have f4_ := f1_.symm; have f5_ := f3_.symm; clear f1_ f2_ f3_; subst f4_; subst f5_))
 obtain ⟨Ao15, co15, eo15⟩ := Kd.qx HO308.out
 (first | subst eo15 | (injection eo15 with f1_ f2_ f3_; have f4_ := f1_.symm; have f5_ := f3_.symm; clear f1_ f2_ f3_; subst f4_; subst f5_))
 refine norm_ (a' := ?_) ?_ ?_
 rotate_left
 ·simp only [putAll, Act.put, List.setIfInBounds_toArray, List.set_cons_zero, List.set_cons_succ]
  rfl
 refine one_ (i := 10) (N := some 15) #[true, true, true, true, true, true, true, true, true, true, true, true, true, true, true, false, false, false] rfl rfl (qDB HT_.out (by kernel_rfl)) (by decide) (fun K hK => ?_)
 refine goes_ Tryd.func25 (by kernel_rfl) rfl #[.slice Ao14 y303.length co14, .slice Ao15 y306.length co15] (by rfl) rfl rfl gA ?_
 with_reducible refine (qN.calls k _ _ y303 _ _ y306 t309 _ ?side1 ?side2 ?side3 ?side4 A3.out).mono ?_
 (case side1 => repeat (first | exact (Kd.qT HO305.out).2.2 | (with_reducible refine Kd.qPA ?_ _) | (with_reducible refine Kd.qOA ?_ _) | (with_reducible refine Kd.qkA ?_)))
 (case side2 => exact (Kd.qT HO305.out).2.1)
 (case side3 => repeat (first | exact (Kd.qT HO308.out).2.2 | (with_reducible refine Kd.qPA ?_ _) | (with_reducible refine Kd.qOA ?_ _) | (with_reducible refine Kd.qkA ?_)))
 (case side4 => exact (Kd.qT HO308.out).2.1)
 rintro e w' ⟨rfl, ⟨nd, rfl⟩⟩
 refine ⟨_, rfl, ?_⟩
 refine hK.out _ _ ⟨bc BK301 0, bc BK301 1, bc BK301 2, bc BK301 3, bc BK301 4, bc BK301 5, bc BK301 6, bc BK301 7, bc BK302 0, bc BK302 1, bc BK302 2, bc BK302 3, bc BK302 4, bc BK302 5, bc BK302 6, bc BK302 7⟩ (fun hHeld => ?_)
 clear hK K
 refine norm_ (a' := ?_) ?_ ?_
 rotate_left
 ·show Act.put _ (some 15) _ = _
  simp only [Act.put, List.setIfInBounds_toArray, List.set_cons_zero, List.set_cons_succ, i64_w, i32_w]
  rfl
 refine one_ (i := 15) (N := some 20) #[true, true, true, true, true, true, true, true, true, true, true, true, true, true, true, true, false, false] rfl rfl (qDB HT_.out (by kernel_rfl)) (by decide) (fun K hK => ?_)
 refine goes_ Tryd.func26 (by kernel_rfl) rfl #[.agg #[.int .i64 a0_2, .int .i64 a0_3, .int .i64 a0_4, .int .i64 a0_5, .int .i64 a0_6, .int .i64 a0_7], .agg #[.int .i64 a1_2, .int .i64 a1_3, .int .i64 a1_4, .int .i64 a1_5, .int .i64 a1_6, .int .i64 a1_7]] (by rfl) rfl rfl gA ?_
 with_reducible refine (qQA.calls k a0_2 a0_3 a0_4 a0_5 a0_6 a0_7 a1_2 a1_3 a1_4 a1_5 a1_6 a1_7 t310 _ A4.out).mono ?_
 rintro e w16 ⟨rfl, hb⟩
 refine ⟨_, rfl, ?_⟩
 replace HO305 := aM (Kd.qY (rR HO305) hb)
 replace HO308 := aM (Kd.qY (rR HO308) hb)
 replace BK301 := aM (bb BK301 hb)
 replace BK302 := aM (bb BK302 hb)
 replace HB := aM (qB bl hb); (try clear hb); (try clear hb2); (try clear hk); (try clear hi)
 refine hK.out _ _ ⟨bc BK301 0, bc BK301 1, bc BK301 2, bc BK301 3, bc BK301 4, bc BK301 5, bc BK301 6, bc BK301 7, bc BK302 0, bc BK302 1, bc BK302 2, bc BK302 3, bc BK302 4, bc BK302 5, bc BK302 6, bc BK302 7⟩ (fun hHeld => ?_)
 clear hK K
 refine norm_ (a' := ?_) ?_ ?_
 rotate_left
 ·show Act.put _ (some 20) _ = _
  simp only [Act.put, List.setIfInBounds_toArray, List.set_cons_zero, List.set_cons_succ, i64_w, i32_w]
  rfl
 refine one_ (i := 16) (N := some 21) #[true, true, true, true, true, true, true, true, true, true, true, true, true, true, true, true, true, false] rfl rfl (qDB HT_.out (by kernel_rfl)) (by decide) (fun K hK => ?_)
 refine goes_ Tryd.func24 (by kernel_rfl) rfl #[.int .i64 t309, .int .i64 t310] (by rfl) rfl rfl gA ?_
 with_reducible refine (qmA.calls k t309 t310 t311 _ A5.out).mono ?_
 rintro e w17 ⟨rfl, hb⟩
 refine ⟨_, rfl, ?_⟩
 replace HO305 := aM (Kd.qY (rR HO305) hb)
 replace HO308 := aM (Kd.qY (rR HO308) hb)
 replace BK301 := aM (bb BK301 hb)
 replace BK302 := aM (bb BK302 hb)
 replace HB := aM (qB bl hb); (try clear hb); (try clear hb2); (try clear hk); (try clear hi)
 refine hK.out _ _ ⟨bc BK301 0, bc BK301 1, bc BK301 2, bc BK301 3, bc BK301 4, bc BK301 5, bc BK301 6, bc BK301 7, bc BK302 0, bc BK302 1, bc BK302 2, bc BK302 3, bc BK302 4, bc BK302 5, bc BK302 6, bc BK302 7⟩ (fun hHeld => ?_)
 clear hK K
 refine norm_ (a' := ?_) ?_ ?_
 rotate_left
 ·show Act.put _ (some 21) _ = _
  simp only [Act.put, List.setIfInBounds_toArray, List.set_cons_zero, List.set_cons_succ, i64_w, i32_w]
  rfl
 refine pS (i := 17) (N := some 4) #[true, true, true, true, true, true, true, true, true, true, true, true, true, true, true, true, true, true] HT_ ?_
 refine done_ (qMB HT_.out (by kernel_rfl)) ?_
 try go_wp2
 go_ret
 exact ⟨sR, bl⟩
end Go.Proofs.YtdhbimankkpllaaDoor.P
namespace Go.Proofs.YtdhbimankkpllaaDoor
open Go.RowKit Go.Proofs.YtdhbimankkpllaaDoor.P Go.Proofs.YtdhbimankkpllaaDoorW.PrintWords Go.Proofs.YtdhbimankkpllaaDoorW.PrintLast
set_option linter.unusedVariables false
set_option linter.unusedSimpArgs false
theorem or_ev (a b : Int) : Ev (fun k => qJA.f k [a, b]) (if a = 0 then b else a) := by
 have w1 : wrap64 ((0 : Int) + 1) = 1 := by unfold wrap64; omega
 have w2 : wrap64 ((1 : Int) + 1) = 2 := by unfold wrap64; omega
 unfold qJA.f
 refine Ev.step (f := fun k => _) (fun k => by rw [qJA.l0]) ?_
 rw [w1]
 refine Ev.pos (by simp) (Ev.pos (by simp) (Ev.pos (by simp) ?_))
 by_cases ha : a = 0
 ·rw [if_pos ha]
  refine Ev.pos ha ?_
  refine Ev.step (f := fun k => _) (fun k => by rw [qJA.l0]) ?_
  rw [w2]
  refine Ev.pos (by simp) (Ev.pos (by simp) (Ev.pos (by simp) ?_))
  by_cases hb : b = 0
  case neg => exact Ev.neg hb (Ev.now _)
  refine Ev.pos hb ?_
  refine Ev.step (f := fun k => _) (fun k => by rw [qJA.l0]) ?_
  refine Ev.neg (by simp) ?_
  rw [hb]
  exact Ev.now _
 ·rw [if_neg ha]
  exact Ev.neg ha (Ev.now _)
theorem dieOrder_ev (x y : DD) : Ev (fun k => qQA.f k x.f0 x.f1 x.f2 x.f3 x.f4 x.f5 y.f0 y.f1 y.f2 y.f3 y.f4 y.f5) (lexI (facesD x) (facesD y)) := by
 unfold qQA.f
 exact Ev.bindc (show qBA.f _ _ _ _ _ _ = some (facesD x) from rfl) (Ev.bindc (show qBA.f _ _ _ _ _ _ = some (facesD y) from rfl) (Ev.bind (compare_ev (facesD x) (facesD y) (by simp [facesD]) (by simp [facesD])) (Ev.now _)))
theorem orderS_ev (t u : XS) : ∃ r, Ev (fun k => ql.f k t.f0 t.f1 t.f2.f0 t.f2.f1 t.f2.f2 t.f2.f3 t.f2.f4 t.f2.f5 u.f0 u.f1 u.f2.f0 u.f2.f1 u.f2.f2 u.f2.f3 u.f2.f4 u.f2.f5) r ∧ decide (r < 0) = ltS t u := by
 refine ⟨if lexI [t.f1, t.f0] [u.f1, u.f0] = 0 then lexI (facesD t.f2) (facesD u.f2) else lexI [t.f1, t.f0] [u.f1, u.f0], ?_, ?_⟩
 ·unfold ql.f qmA.f
  exact Ev.bind (compare_ev [t.f1, t.f0] [u.f1, u.f0] (by simp) (by simp)) (Ev.bind (dieOrder_ev t.f2 u.f2) (Ev.bind (Ev.bind (or_ev _ _) (Ev.now _)) (Ev.now _)))
 ·unfold ltS numsS
  apply decide_eq_decide.2
  simp only [lexI]
  by_cases h1 : cmpI t.f1 u.f1 = 0
  ·simp only [if_pos h1]
   by_cases h2 : cmpI t.f0 u.f0 = 0
   case neg => simp [h2]
   simp [h2]
  ·simp [h1]
end Go.Proofs.YtdhbimankkpllaaDoor
