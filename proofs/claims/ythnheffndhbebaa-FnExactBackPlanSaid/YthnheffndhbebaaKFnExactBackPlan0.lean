/- The program's BackPlan returns what the reference's returns, for all texts up to 2^20 bytes (longer ones the law lets by). No further condition. -/
import Derived.Test.YthnheffndhbebaaWLast
import Derived.Test.YthnheffndhbebaaWMore
import Derived.Test.YthnheffndhbebaaProg
import Derived.Below
import Derived.Deep.Draws
import Derived.Deep.AppendLies
import Derived.Maps.AppendAt
import Derived.OwnWalk
import Derived.Laws.BytesArg
import Derived.Laws.MakeOwn
import Derived.Laws.OwnMore
import Derived.Deep.OwnRows
import Derived.Tactics
import Derived.Lib.ConvBytes
import Derived.Laws.Slices
import Derived.WalkKit
import Derived.KernelRfl
import Derived.RowKit3
import Derived.Deep.LoopGhost
import Derived.Deep.QuietTactic
import Derived.BigQuiet
import Derived.WideLaws
import Derived.Deep.DeepCutAuto
import Derived.Deep.CutBlock
import Derived.Deep.RegionHeld3
import Derived.Laws.Rows
import Derived.Lib.AppendStr
import Derived.ArgAppend
import Derived.Laws.IdiomCopy
import Derived.OrdersHeld
import Derived.Laws.BitsLemmas
import Derived.RowKit
import Derived.Test.YthnheffndhbebaaWWords
import Derived.Test.YthnheffndhbebaaWTab
import Derived.Test.YthnheffndhbebaaWFour
import Derived.Test.YthnheffndhbebaaWQPut
import Derived.Test.YthnheffndhbebaaWApart
import Derived.Test.YthnheffndhbebaaWArr
import Derived.Test.YthnheffndhbebaaWZeros
import Derived.Test.YthnheffndhbebaaWFoot
import Derived.Test.YthnheffndhbebaaWKept
import Derived.Test.YthnheffndhbebaaWShare
import Derived.Test.YthnheffndhbebaaWN
import Derived.Test.YthnheffndhbebaaWFootNe
import Derived.Test.YthnheffndhbebaaWAt
import Derived.Test.YthnheffndhbebaaWEqStruct
import Derived.Test.YthnheffndhbebaaWRepsOne
import Derived.Test.YthnheffndhbebaaWInv
import Derived.Test.YthnheffndhbebaaWInvWords
import Derived.Test.YthnheffndhbebaaWGuard
import Derived.Test.YthnheffndhbebaaWNEv
import Derived.Lib.Hide
import Derived.Shelf.Abstract
import Derived.Outline
import Derived.Shelf.Small.Strs
import Derived.Shelf.Strings.Search1
import Derived.Lib.Strings
import Derived.Lib.SmallJoins

namespace Go.Proofs.Ythnheffndhbebaa
open Go.RowKit Go.Proofs.YthnheffndhbebaaW.PrintWords Go.Proofs.YthnheffndhbebaaW.PrintLast
section
variable {P : Program} {ops : Array Oper} {Q : Exit → Act → World → Prop}
theorem gate_value {rest : List Oper} {o : Oper} {a : Act} {W : World} {s : Tmp} {ops_ : Array Operand} {ts : Array TypeId} (_ho : o.op = .call { callee := .value (.tmp s), args := ops_, argTypes := ts }) (h : wpList P ops Q (o :: rest) a W) : wpList P ops Q (o :: rest) a W := h
/-- In a plain region. -/
theorem goesLV_ {rest : List Oper} {oi : Oper} {a : Act} {w : World} (N : Option Tmp) (s : Tmp) (hd : oi.dst = N) (hg : oi.guard = none) {f : FuncId} {fn : Func} {ops_ : Array Operand} {ts : Array TypeId} (hf : P.funcs[f]? = some fn) (hname : (fn.name == "runtime.NumGoroutine") = false) (hb : fn.body.isSome = true) (args : Array Value)
    (hop : oi.op = .call { callee := .value (.tmp s), args := ops_, argTypes := ts }) (hv : a.eval (.tmp s) = .func (.func f) #[] #[]) (hargs : ops_.map a.eval = args)
    (h : Calls P f args w fun e w' => ∃ v, e = .returned v ∧ wpList P ops Q rest (a.put N v) w') : wpList P ops Q (oi :: rest) a w := by
  refine wpList_plain hg fun K hK => ?_
  have he := enters_ hf hname hb args w
  have hrun : (execOp a.eval oi).run P w = .ok (.enter f args) w := by
    unfold execOp
    simp [hop, resolve, hv, Deferred.ofValue, invoke, hargs, he]
  unfold Oper.wp
  rw [hrun, Oper.upon_enter]
  refine h.mono fun e w'' hh => ?_
  obtain ⟨v, rfl, hk⟩ := hh
  subst hd
  exact hK _ _ hk
/-- In a region that draws its order. -/
theorem goesV_ {oi : Oper} {N : Option Tmp} {a : Act} {w : World} {K : Act → World → Prop} (s : Tmp) {f : FuncId} {fn : Func} {ops_ : Array Operand} {ts : Array TypeId} (hf : P.funcs[f]? = some fn) (hname : (fn.name == "runtime.NumGoroutine") = false) (hb : fn.body.isSome = true) (args : Array Value)
    (hw : Region.wanted oi (yielded ops a.tmps) = true) (hN : oi.dst = N) (hop : oi.op = .call { callee := .value (.tmp s), args := ops_, argTypes := ts }) (hv : a.eval (.tmp s) = .func (.func f) #[] #[]) (hargs : ops_.map a.eval = args)
    (h : Calls P f args w fun e w' => ∃ v, e = .returned v ∧ K (a.put N v) w') : if Region.wanted oi (yielded ops a.tmps) = true then Oper.wp P oi a w K Q else K (a.put N undef) w := by
  refine call_ f args hw hN ?_ h
  have he := enters_ hf hname hb args w
  unfold execOp
  simp [hop, resolve, hv, Deferred.ofValue, invoke, hargs, he]
end
end Go.Proofs.Ythnheffndhbebaa

namespace Go.Proofs.Ythnheffndhbebaa.P
open Go.RowKit Go.Proofs.YthnheffndhbebaaW.PrintWords Go.Proofs.YthnheffndhbebaaW.PrintLast Go.Proofs.YthnheffndhbebaaW.PrintMore
attribute [local go_sem] max2_int min2_int max_two min_two max_three min_three max_four min_four   -- for this text's walks alone
set_option linter.unusedVariables false
set_option linter.unusedSimpArgs false



def errW : Option Int → Value
  | none => .nilIface
  | some c => .iface 0 (.int .i64 c)
theorem errW_none : errW none = .nilIface := rfl
theorem errW_some (c : Int) : errW (some c) = .iface 0 (.int .i64 c) := rfl

theorem info3 : (Try.prog.info? 3).map (fun i => (i.zero, i.size, i.bytes)) = some (some (.int .i64 0), 1, 8) := by kernel_rfl
theorem info4 : (Try.prog.info? 4).map (fun i => (i.zero, i.size, i.bytes)) = some (some (.bool false), 1, 1) := by kernel_rfl
theorem info5 : (Try.prog.info? 5).map (fun i => (i.zero, i.size, i.bytes)) = some (some (.int .u8 0), 1, 1) := by kernel_rfl
theorem info9 : (Try.prog.info? 9).map (fun i => (i.zero, i.size, i.bytes)) = some (some (.string ⟨#[]⟩), 1, 16) := by kernel_rfl
theorem info29 : (Try.prog.info? 29).map (fun i => (i.zero, i.size, i.bytes)) = some (some (.slice none 0 0), 1, 24) := by kernel_rfl
theorem info40 : (Try.prog.info? 40).map (fun i => (i.zero, i.size, i.bytes)) = some (some (.agg #[(.int .i64 0), (.int .i64 0), (.int .i64 0), (.int .i64 0), (.int .i64 0), (.int .i64 0)]), 6, 48) := by kernel_rfl
theorem info82 : (Try.prog.info? 82).map (fun i => (i.zero, i.size, i.bytes)) = some (some (.agg #[(.int .i64 0), (.int .i64 0)]), 2, 16) := by kernel_rfl
-- the values' own types
def rd_L3 (xs : List (List Int)) (i : Int) : (List Int) := xs.getD i.toNat ([] : List Int)
theorem at_L3 {w : World} {A : Option Addr} {n : Nat} {xs : List (List Int)} (h : Kd.C (Kd.slice 3 (Kd.int .i64)) w A n xs) (i : Int) (h0 : 0 ≤ i) (h1 : i < n) : ∃ ad A0 c0, A = some ad ∧ w.cell? (ad.add i.toNat) = some (.slice A0 (rd_L3 xs i).length c0) ∧ (rd_L3 xs i).length ≤ c0 ∧ (Kd.int .i64).C w A0 (rd_L3 xs i).length (rd_L3 xs i) := by
  obtain ⟨ad, c, e, _, hK, hc0⟩ := Kd.C_get h ([] : List Int) i h0 h1
  have hc : ∀ j u, c[j]? = some u → w.cell? (ad.add (i.toNat * 1 + j)) = some u := hc0
  obtain ⟨A0, c0, rfl, l0, g0⟩ := hK
  exact ⟨ad, A0, c0, e, by have hq := hc 0 _ rfl; rwa [Nat.mul_one, Nat.add_zero] at hq, l0, g0⟩

/-! #### struct type 82 -/
structure S82 where
  f0 : Int
  f1 : Int
def z82 : S82 := ⟨(0 : Int), (0 : Int)⟩
def k82 : Kd S82 := Kd.iso (Kd.pair (Kd.int .i64) (Kd.int .i64)) (fun x : S82 => (x.f0, x.f1))
theorem k82_open {w : World} {x : S82} {cs : List Value} (h : k82.K w x cs) : cs = [.int .i64 x.f0, .int .i64 x.f1] := by
  obtain ⟨_, _, rfl, rfl, rfl⟩ := h
  exact rfl
theorem k82_openM {w : World} {base : Nat} {ok : Nat → Prop} {x : S82} {cs : List Value} (h : k82.M w base ok x cs) : cs = [.int .i64 x.f0, .int .i64 x.f1] := by
  obtain ⟨_, _, rfl, rfl, rfl⟩ := h
  exact rfl
theorem k82_mk (w : World) (x : S82)  : k82.K w x [.int .i64 x.f0, .int .i64 x.f1] := ⟨[.int .i64 x.f0], [.int .i64 x.f1], rfl, rfl, rfl⟩
theorem k82_mkM (w : World) (base : Nat) (ok : Nat → Prop) (x : S82)  : k82.M w base ok x [.int .i64 x.f0, .int .i64 x.f1] := ⟨[.int .i64 x.f0], [.int .i64 x.f1], rfl, rfl, rfl⟩
theorem k82_mkF (W : World) (ok : Nat → Prop) (x : S82) : Kd.FK k82 W ok x [.int .i64 x.f0, .int .i64 x.f1] := fun W2 _ => k82_mk W2 x
def rd_T82 (xs : List S82) (i : Int) : S82 := xs.getD i.toNat z82
theorem at_T82 {w : World} {A : Option Addr} {n : Nat} {xs : List S82} (h : Kd.C k82 w A n xs) (i : Int) (h0 : 0 ≤ i) (h1 : i < n) : ∃ ad , A = some ad ∧ w.cell? (ad.add (i.toNat * 2)) = some (.int .i64 (rd_T82 xs i).f0) ∧ w.cell? ⟨(ad.add (i.toNat * 2)).block, (ad.add (i.toNat * 2)).off + 1, none⟩ = some (.int .i64 (rd_T82 xs i).f1) := by
  obtain ⟨ad, c, e, _, hK, hc0⟩ := Kd.C_get h z82 i h0 h1
  have hc : ∀ j u, c[j]? = some u → w.cell? (ad.add (i.toNat * 2 + j)) = some u := hc0
  obtain rfl := k82_open hK
  exact ⟨ad, e, hc 0 _ rfl, by rw [← add_field _ _ 1 (by omega)]; exact hc 1 _ rfl⟩

/-! #### struct type 40 -/
structure S40 where
  f0 : Int
  f1 : Int
  f2 : Int
  f3 : Int
  f4 : Int
  f5 : Int
def z40 : S40 := ⟨(0 : Int), (0 : Int), (0 : Int), (0 : Int), (0 : Int), (0 : Int)⟩
def k40 : Kd S40 := Kd.iso (Kd.pair (Kd.int .i64) (Kd.pair (Kd.int .i64) (Kd.pair (Kd.int .i64) (Kd.pair (Kd.int .i64) (Kd.pair (Kd.int .i64) (Kd.int .i64)))))) (fun x : S40 => (x.f0, x.f1, x.f2, x.f3, x.f4, x.f5))
theorem k40_open {w : World} {x : S40} {cs : List Value} (h : k40.K w x cs) : cs = [.int .i64 x.f0, .int .i64 x.f1, .int .i64 x.f2, .int .i64 x.f3, .int .i64 x.f4, .int .i64 x.f5] := by
  obtain ⟨_, _, rfl, rfl, ⟨_, _, rfl, rfl, ⟨_, _, rfl, rfl, ⟨_, _, rfl, rfl, ⟨_, _, rfl, rfl, rfl⟩⟩⟩⟩⟩ := h
  exact rfl
theorem k40_openM {w : World} {base : Nat} {ok : Nat → Prop} {x : S40} {cs : List Value} (h : k40.M w base ok x cs) : cs = [.int .i64 x.f0, .int .i64 x.f1, .int .i64 x.f2, .int .i64 x.f3, .int .i64 x.f4, .int .i64 x.f5] := by
  obtain ⟨_, _, rfl, rfl, ⟨_, _, rfl, rfl, ⟨_, _, rfl, rfl, ⟨_, _, rfl, rfl, ⟨_, _, rfl, rfl, rfl⟩⟩⟩⟩⟩ := h
  exact rfl
theorem k40_mk (w : World) (x : S40)  : k40.K w x [.int .i64 x.f0, .int .i64 x.f1, .int .i64 x.f2, .int .i64 x.f3, .int .i64 x.f4, .int .i64 x.f5] := ⟨[.int .i64 x.f0], [.int .i64 x.f1, .int .i64 x.f2, .int .i64 x.f3, .int .i64 x.f4, .int .i64 x.f5], rfl, rfl, ⟨[.int .i64 x.f1], [.int .i64 x.f2, .int .i64 x.f3, .int .i64 x.f4, .int .i64 x.f5], rfl, rfl, ⟨[.int .i64 x.f2], [.int .i64 x.f3, .int .i64 x.f4, .int .i64 x.f5], rfl, rfl, ⟨[.int .i64 x.f3], [.int .i64 x.f4, .int .i64 x.f5], rfl, rfl, ⟨[.int .i64 x.f4], [.int .i64 x.f5], rfl, rfl, rfl⟩⟩⟩⟩⟩
theorem k40_mkM (w : World) (base : Nat) (ok : Nat → Prop) (x : S40)  : k40.M w base ok x [.int .i64 x.f0, .int .i64 x.f1, .int .i64 x.f2, .int .i64 x.f3, .int .i64 x.f4, .int .i64 x.f5] := ⟨[.int .i64 x.f0], [.int .i64 x.f1, .int .i64 x.f2, .int .i64 x.f3, .int .i64 x.f4, .int .i64 x.f5], rfl, rfl, ⟨[.int .i64 x.f1], [.int .i64 x.f2, .int .i64 x.f3, .int .i64 x.f4, .int .i64 x.f5], rfl, rfl, ⟨[.int .i64 x.f2], [.int .i64 x.f3, .int .i64 x.f4, .int .i64 x.f5], rfl, rfl, ⟨[.int .i64 x.f3], [.int .i64 x.f4, .int .i64 x.f5], rfl, rfl, ⟨[.int .i64 x.f4], [.int .i64 x.f5], rfl, rfl, rfl⟩⟩⟩⟩⟩
theorem k40_mkF (W : World) (ok : Nat → Prop) (x : S40) : Kd.FK k40 W ok x [.int .i64 x.f0, .int .i64 x.f1, .int .i64 x.f2, .int .i64 x.f3, .int .i64 x.f4, .int .i64 x.f5] := fun W2 _ => k40_mk W2 x
def rd_T40 (xs : List S40) (i : Int) : S40 := xs.getD i.toNat z40
theorem at_T40 {w : World} {A : Option Addr} {n : Nat} {xs : List S40} (h : Kd.C k40 w A n xs) (i : Int) (h0 : 0 ≤ i) (h1 : i < n) : ∃ ad , A = some ad ∧ w.cell? (ad.add (i.toNat * 6)) = some (.int .i64 (rd_T40 xs i).f0) ∧ w.cell? ⟨(ad.add (i.toNat * 6)).block, (ad.add (i.toNat * 6)).off + 1, none⟩ = some (.int .i64 (rd_T40 xs i).f1) ∧ w.cell? ⟨(ad.add (i.toNat * 6)).block, (ad.add (i.toNat * 6)).off + 2, none⟩ = some (.int .i64 (rd_T40 xs i).f2) ∧ w.cell? ⟨(ad.add (i.toNat * 6)).block, (ad.add (i.toNat * 6)).off + 3, none⟩ = some (.int .i64 (rd_T40 xs i).f3) ∧ w.cell? ⟨(ad.add (i.toNat * 6)).block, (ad.add (i.toNat * 6)).off + 4, none⟩ = some (.int .i64 (rd_T40 xs i).f4) ∧ w.cell? ⟨(ad.add (i.toNat * 6)).block, (ad.add (i.toNat * 6)).off + 5, none⟩ = some (.int .i64 (rd_T40 xs i).f5) := by
  obtain ⟨ad, c, e, _, hK, hc0⟩ := Kd.C_get h z40 i h0 h1
  have hc : ∀ j u, c[j]? = some u → w.cell? (ad.add (i.toNat * 6 + j)) = some u := hc0
  obtain rfl := k40_open hK
  exact ⟨ad, e, hc 0 _ rfl, by rw [← add_field _ _ 1 (by omega)]; exact hc 1 _ rfl, by rw [← add_field _ _ 2 (by omega)]; exact hc 2 _ rfl, by rw [← add_field _ _ 3 (by omega)]; exact hc 3 _ rfl, by rw [← add_field _ _ 4 (by omega)]; exact hc 4 _ rfl, by rw [← add_field _ _ 5 (by omega)]; exact hc 5 _ rfl⟩

/-! #### struct type 38 -/
structure S38 where
  f0 : Int
  f1 : Int
  f2 : Int
  f3 : Int
  f4 : Int
  f5 : Int
def z38 : S38 := ⟨(0 : Int), (0 : Int), (0 : Int), (0 : Int), (0 : Int), (0 : Int)⟩
def k38 : Kd S38 := Kd.iso (Kd.pair (Kd.int .i64) (Kd.pair (Kd.int .i64) (Kd.pair (Kd.int .i64) (Kd.pair (Kd.int .i64) (Kd.pair (Kd.int .i64) (Kd.int .i64)))))) (fun x : S38 => (x.f0, x.f1, x.f2, x.f3, x.f4, x.f5))
theorem k38_open {w : World} {x : S38} {cs : List Value} (h : k38.K w x cs) : cs = [.int .i64 x.f0, .int .i64 x.f1, .int .i64 x.f2, .int .i64 x.f3, .int .i64 x.f4, .int .i64 x.f5] := by
  obtain ⟨_, _, rfl, rfl, ⟨_, _, rfl, rfl, ⟨_, _, rfl, rfl, ⟨_, _, rfl, rfl, ⟨_, _, rfl, rfl, rfl⟩⟩⟩⟩⟩ := h
  exact rfl
theorem k38_openM {w : World} {base : Nat} {ok : Nat → Prop} {x : S38} {cs : List Value} (h : k38.M w base ok x cs) : cs = [.int .i64 x.f0, .int .i64 x.f1, .int .i64 x.f2, .int .i64 x.f3, .int .i64 x.f4, .int .i64 x.f5] := by
  obtain ⟨_, _, rfl, rfl, ⟨_, _, rfl, rfl, ⟨_, _, rfl, rfl, ⟨_, _, rfl, rfl, ⟨_, _, rfl, rfl, rfl⟩⟩⟩⟩⟩ := h
  exact rfl
theorem k38_mk (w : World) (x : S38)  : k38.K w x [.int .i64 x.f0, .int .i64 x.f1, .int .i64 x.f2, .int .i64 x.f3, .int .i64 x.f4, .int .i64 x.f5] := ⟨[.int .i64 x.f0], [.int .i64 x.f1, .int .i64 x.f2, .int .i64 x.f3, .int .i64 x.f4, .int .i64 x.f5], rfl, rfl, ⟨[.int .i64 x.f1], [.int .i64 x.f2, .int .i64 x.f3, .int .i64 x.f4, .int .i64 x.f5], rfl, rfl, ⟨[.int .i64 x.f2], [.int .i64 x.f3, .int .i64 x.f4, .int .i64 x.f5], rfl, rfl, ⟨[.int .i64 x.f3], [.int .i64 x.f4, .int .i64 x.f5], rfl, rfl, ⟨[.int .i64 x.f4], [.int .i64 x.f5], rfl, rfl, rfl⟩⟩⟩⟩⟩
theorem k38_mkM (w : World) (base : Nat) (ok : Nat → Prop) (x : S38)  : k38.M w base ok x [.int .i64 x.f0, .int .i64 x.f1, .int .i64 x.f2, .int .i64 x.f3, .int .i64 x.f4, .int .i64 x.f5] := ⟨[.int .i64 x.f0], [.int .i64 x.f1, .int .i64 x.f2, .int .i64 x.f3, .int .i64 x.f4, .int .i64 x.f5], rfl, rfl, ⟨[.int .i64 x.f1], [.int .i64 x.f2, .int .i64 x.f3, .int .i64 x.f4, .int .i64 x.f5], rfl, rfl, ⟨[.int .i64 x.f2], [.int .i64 x.f3, .int .i64 x.f4, .int .i64 x.f5], rfl, rfl, ⟨[.int .i64 x.f3], [.int .i64 x.f4, .int .i64 x.f5], rfl, rfl, ⟨[.int .i64 x.f4], [.int .i64 x.f5], rfl, rfl, rfl⟩⟩⟩⟩⟩
theorem k38_mkF (W : World) (ok : Nat → Prop) (x : S38) : Kd.FK k38 W ok x [.int .i64 x.f0, .int .i64 x.f1, .int .i64 x.f2, .int .i64 x.f3, .int .i64 x.f4, .int .i64 x.f5] := fun W2 _ => k38_mk W2 x
def rd_T38 (xs : List S38) (i : Int) : S38 := xs.getD i.toNat z38
theorem at_T38 {w : World} {A : Option Addr} {n : Nat} {xs : List S38} (h : Kd.C k38 w A n xs) (i : Int) (h0 : 0 ≤ i) (h1 : i < n) : ∃ ad , A = some ad ∧ w.cell? (ad.add (i.toNat * 6)) = some (.int .i64 (rd_T38 xs i).f0) ∧ w.cell? ⟨(ad.add (i.toNat * 6)).block, (ad.add (i.toNat * 6)).off + 1, none⟩ = some (.int .i64 (rd_T38 xs i).f1) ∧ w.cell? ⟨(ad.add (i.toNat * 6)).block, (ad.add (i.toNat * 6)).off + 2, none⟩ = some (.int .i64 (rd_T38 xs i).f2) ∧ w.cell? ⟨(ad.add (i.toNat * 6)).block, (ad.add (i.toNat * 6)).off + 3, none⟩ = some (.int .i64 (rd_T38 xs i).f3) ∧ w.cell? ⟨(ad.add (i.toNat * 6)).block, (ad.add (i.toNat * 6)).off + 4, none⟩ = some (.int .i64 (rd_T38 xs i).f4) ∧ w.cell? ⟨(ad.add (i.toNat * 6)).block, (ad.add (i.toNat * 6)).off + 5, none⟩ = some (.int .i64 (rd_T38 xs i).f5) := by
  obtain ⟨ad, c, e, _, hK, hc0⟩ := Kd.C_get h z38 i h0 h1
  have hc : ∀ j u, c[j]? = some u → w.cell? (ad.add (i.toNat * 6 + j)) = some u := hc0
  obtain rfl := k38_open hK
  exact ⟨ad, e, hc 0 _ rfl, by rw [← add_field _ _ 1 (by omega)]; exact hc 1 _ rfl, by rw [← add_field _ _ 2 (by omega)]; exact hc 2 _ rfl, by rw [← add_field _ _ 3 (by omega)]; exact hc 3 _ rfl, by rw [← add_field _ _ 4 (by omega)]; exact hc 4 _ rfl, by rw [← add_field _ _ 5 (by omega)]; exact hc 5 _ rfl⟩

end Go.Proofs.Ythnheffndhbebaa.P

namespace Go.Proofs.Ythnheffndhbebaa.P
open Go.RowKit Go.Proofs.YthnheffndhbebaaW.PrintWords Go.Proofs.YthnheffndhbebaaW.PrintLast Go.Proofs.YthnheffndhbebaaW.PrintMore
attribute [local go_sem] max2_int min2_int max_two min_two max_three min_three max_four min_four   -- for this text's walks alone
set_option linter.unusedVariables false
set_option linter.unusedSimpArgs false

/-! ### spec_diDirs: function 91 -/
def spec_diDirs.f  : Option (ByteArray) := some (⟨#[110, 101, 115, 119]⟩ : ByteArray)
set_option maxHeartbeats 8000000 in
set_option maxRecDepth 100000 in
theorem spec_diDirs.calls  (r : ByteArray) (w : World) (h : spec_diDirs.f  = some r) :
    Calls Try.prog 91 #[] w fun e w' => e = .returned (.string r) ∧ Drawn0 w w' := by
  have H : (some (⟨#[110, 101, 115, 119]⟩ : ByteArray)) = some r := h
  clear h
  obtain rfl := Option.some.inj H
  go_enter Try.func91, Try.ntmps91
  go_wp2
  go_ret
  exact ⟨by first | rfl | (simp; done) | (simp [*]; done), by repeat (first | exact Drawn0.refl _ | apply Drawn0.step)⟩

end Go.Proofs.Ythnheffndhbebaa.P

namespace Go.Proofs.Ythnheffndhbebaa.P
open Go.RowKit Go.Proofs.YthnheffndhbebaaW.PrintWords Go.Proofs.YthnheffndhbebaaW.PrintLast Go.Proofs.YthnheffndhbebaaW.PrintMore
attribute [local go_sem] max2_int min2_int max_two min_two max_three min_three max_four min_four   -- for this text's walks alone
set_option linter.unusedVariables false
set_option linter.unusedSimpArgs false

/-! ### spec_diDir: function 89 -/
def spec_diDir.l0 : Nat → ByteArray → Int → Option (Int)
  | 0, _, _ => none
  | k + 1, x0, x3 => if x3 < 4 then ((spec_diDirs.f).bind fun t101 => (if 0 ≤ x3 then (if x3 ≤ (wrap64 (x3 + 1)) then (if (wrap64 (x3 + 1)) ≤ (t101.size : Int) then (if x0.toList = (t101.extract (x3 : Int).toNat ((wrap64 (x3 + 1)) : Int).toNat).toList then (some x3) else (spec_diDir.l0 k x0 (wrap64 (x3 + 1)))) else (none)) else (none)) else (none))) else (some (-1))
def spec_diDir.f (k : Nat) (a0 : ByteArray) : Option (Int) := spec_diDir.l0 k a0 0
theorem spec_diDir.mono_l : ∀ k, (∀ y0 y1, LeO (spec_diDir.l0 k y0 y1) (spec_diDir.l0 (k + 1) y0 y1))
  | 0 => fun _ _ r h => by simp [spec_diDir.l0] at h
  | k + 1 => by
    have ih0 := spec_diDir.mono_l k
    · intro y0 y1
      unfold spec_diDir.l0
      repeat' first
      | (with_reducible exact ih0 _ _)
      | (with_reducible exact LeO.refl _)
      | (with_reducible exact LeO.none _)
      | (with_reducible refine LeO.ite ?_ ?_)
      | (with_reducible refine LeO.bind ?_ (fun _ => ?_))
      | exact ih0 _ _
      | exact LeO.none _
      | refine LeO.ite ?_ ?_
      | refine LeO.bind ?_ (fun _ => ?_)
theorem spec_diDir.mono : ∀ a0 k, LeO (spec_diDir.f k a0) (spec_diDir.f (k + 1) a0) := by
  intro a0 k
  have ih0 := spec_diDir.mono_l k
  unfold spec_diDir.f
  repeat' first
      | (with_reducible exact ih0 _ _)
      | (with_reducible exact LeO.refl _)
      | (with_reducible exact LeO.none _)
      | (with_reducible refine LeO.ite ?_ ?_)
      | (with_reducible refine LeO.bind ?_ (fun _ => ?_))
      | exact ih0 _ _
      | exact LeO.none _
      | refine LeO.ite ?_ ?_
      | refine LeO.bind ?_ (fun _ => ?_)
set_option maxHeartbeats 8000000 in
set_option maxRecDepth 100000 in
theorem spec_diDir.calls (k : Nat) (a0 : ByteArray) (r : Int) (w : World) (h : spec_diDir.f k a0 = some r) :
    Calls Try.prog 89 #[.string a0] w fun e w' => e = .returned (.int .i64 r) ∧ Drawn0 w w' := by
  have H : (spec_diDir.l0 k a0 0) = some r := h
  clear h
  have H' := Aside0.mk H
  clear H
  go_enter Try.func89, Try.ntmps89
  go_wp2
  go_loopg [3] k (fun kq v3 w' => ∃ (x3_1 : Int), v3 = .int .i64 x3_1 ∧ Aside0 (spec_diDir.l0 kq a0 x3_1 = some r) ∧ Aside0 (kq ≤ k) ∧ Drawn0 w w')
  case atStart => exact ⟨(0), (by first | rfl | (simp; done) | (simp [*]; done)), H', ⟨Nat.le_refl _⟩, by repeat (first | exact Drawn0.refl _ | apply Drawn0.step)⟩
  case round =>
    clear H'
    obtain ⟨x3_1, rfl, HA, HK1, ⟨m1, rfl⟩⟩ := hrel
    cases gk with
    | zero => exact absurd HA.out (by simp [spec_diDir.l0])
    | succ k1 =>
      have H := HA.out
      clear HA
      simp only [spec_diDir.l0] at H
      by_cases c2 : x3_1 < 4
      · rw [if_pos c2] at H
        have c2b0 : decide (x3_1 < 4) = true := decide_eq_true c2
        clear c2
        replace H := Option.bind_eq_some_iff.mp H
        obtain ⟨t101, A30, H⟩ := H
        replace H : (if 0 ≤ x3_1 then (if x3_1 ≤ (wrap64 (x3_1 + 1)) then (if (wrap64 (x3_1 + 1)) ≤ (t101.size : Int) then (if a0.toList = (t101.extract (x3_1 : Int).toNat ((wrap64 (x3_1 + 1)) : Int).toNat).toList then (some x3_1) else (spec_diDir.l0 k1 a0 (wrap64 (x3_1 + 1)))) else (none)) else (none)) else (none)) = some r := H
        have A3 := Aside0.mk A30
        clear A30
        by_cases c4 : 0 ≤ x3_1
        · rw [if_pos c4] at H
          have c4b0 := eq_true c4
          have c4b1 : decide (0 ≤ x3_1) = true := decide_eq_true c4
          clear c4
          by_cases c5 : x3_1 ≤ (wrap64 (x3_1 + 1))
          · rw [if_pos c5] at H
            have c5b0 := eq_true c5
            have c5b1 : decide (x3_1 ≤ (wrap64 (x3_1 + 1))) = true := decide_eq_true c5
            by_cases c6 : (wrap64 (x3_1 + 1)) ≤ (t101.size : Int)
            · rw [if_pos c6] at H
              have c6b0 := eq_true c6
              have c6b1 : decide ((wrap64 (x3_1 + 1)) ≤ (t101.size : Int)) = true := decide_eq_true c6
              by_cases c7 : a0.toList = (t101.extract (x3_1 : Int).toNat ((wrap64 (x3_1 + 1)) : Int).toNat).toList
              · rw [if_pos c7] at H
                have c7b0 : (a0.toList == (t101.extract (x3_1 : Int).toNat ((wrap64 (x3_1 + 1)) : Int).toNat).toList) = true := beq_iff_eq.mpr c7
                have c7b1 : (a0.toList != (t101.extract (x3_1 : Int).toNat ((wrap64 (x3_1 + 1)) : Int).toNat).toList) = false := bne_eq_false_iff_eq.mpr c7
                clear c7
                obtain rfl := Option.some.inj H
                go_wp2_with (first | ((with_reducible refine gate_callee (f := 91) rfl ?_); refine goesL_ (some 9) rfl rfl Try.func91 (by kernel_rfl) rfl #[] rfl (by (try simp only [List.map_toArray, List.map_cons, List.map_nil]); first | done | rfl | (simp only [List.length_drop, List.length_take]; rfl)) ?_; (with_reducible refine (spec_diDirs.calls  t101 _ A3.out).mono ?_); rintro e w' ⟨rfl, ⟨nd, rfl⟩⟩; refine ⟨_, rfl, ?_⟩))
                go_ret
                exact ⟨by first | rfl | (simp; done) | (simp [*]; done), by repeat (first | exact Drawn0.refl _ | apply Drawn0.step)⟩
              · rw [if_neg c7] at H
                have c7b0 : (a0.toList == (t101.extract (x3_1 : Int).toNat ((wrap64 (x3_1 + 1)) : Int).toNat).toList) = false := beq_eq_false_iff_ne.mpr c7
                have c7b1 : (a0.toList != (t101.extract (x3_1 : Int).toNat ((wrap64 (x3_1 + 1)) : Int).toNat).toList) = true := bne_iff_ne.mpr c7
                have H' := Aside0.mk H
                clear H
                go_wp2_with (first | ((with_reducible refine gate_callee (f := 91) rfl ?_); refine goesL_ (some 9) rfl rfl Try.func91 (by kernel_rfl) rfl #[] rfl (by (try simp only [List.map_toArray, List.map_cons, List.map_nil]); first | done | rfl | (simp only [List.length_drop, List.length_take]; rfl)) ?_; (with_reducible refine (spec_diDirs.calls  t101 _ A3.out).mono ?_); rintro e w' ⟨rfl, ⟨nd, rfl⟩⟩; refine ⟨_, rfl, ?_⟩))
                go_roundg k1
                case measure => have := HK1.out; omega
                case rel => exact ⟨(wrap64 (x3_1 + 1)), (by first | rfl | (simp; done) | (simp [*]; done)), H', ⟨by have := HK1.out; omega⟩, by repeat (first | exact Drawn0.refl _ | apply Drawn0.step)⟩
            · rw [if_neg c6] at H
              exact absurd H (by simp)
          · rw [if_neg c5] at H
            exact absurd H (by simp)
        · rw [if_neg c4] at H
          exact absurd H (by simp)
      · rw [if_neg c2] at H
        have c2b0 : decide (x3_1 < 4) = false := decide_eq_false c2
        clear c2
        obtain rfl := Option.some.inj H
        go_wp2
        go_ret
        exact ⟨by first | rfl | (simp; done) | (simp [*]; done), by repeat (first | exact Drawn0.refl _ | apply Drawn0.step)⟩

end Go.Proofs.Ythnheffndhbebaa.P

namespace Go.Proofs.Ythnheffndhbebaa.P
open Go.RowKit Go.Proofs.YthnheffndhbebaaW.PrintWords Go.Proofs.YthnheffndhbebaaW.PrintLast Go.Proofs.YthnheffndhbebaaW.PrintMore
attribute [local go_sem] max2_int min2_int max_two min_two max_three min_three max_four min_four   -- for this text's walks alone
set_option linter.unusedVariables false
set_option linter.unusedSimpArgs false

/-! ### spec_myPlan: function 52 -/
mutual
def spec_myPlan.j0 : Nat → ByteArray → Bool → Option (Bool)
  | 0, _, _ => none
  | k + 1, x0, x12 => if x12 = true then (some false) else (spec_myPlan.l0 k x0 0)
def spec_myPlan.l0 : Nat → ByteArray → Int → Option (Bool)
  | 0, _, _ => none
  | k + 1, x0, x3 => if x3 < (x0.size : Int) then (if 0 ≤ x3 then (if (bt x0 x3) < 48 then (some false) else (if (bt x0 x3) ≥ 51 then (some false) else (if 0 ≤ (wrap64 (x3 + 1)) then (if (wrap64 (x3 + 1)) ≤ (wrap64 (x3 + 2)) then (if (wrap64 (x3 + 2)) ≤ (x0.size : Int) then ((spec_diDir.f k (x0.extract ((wrap64 (x3 + 1)) : Int).toNat ((wrap64 (x3 + 2)) : Int).toNat)).bind fun t102 => (if t102 < 0 then (some false) else (spec_myPlan.l0 k x0 (wrap64 (x3 + 2))))) else (none)) else (none)) else (none)))) else (none)) else (some true)
end
def spec_myPlan.f (k : Nat) (a0 : ByteArray) : Option (Bool) := if ((a0.size : Int) % 2) = 0 then (spec_myPlan.j0 k a0 (decide ((a0.size : Int) > 120))) else (spec_myPlan.j0 k a0 true)
theorem spec_myPlan.mono_l : ∀ k, (∀ y0 y1, LeO (spec_myPlan.j0 k y0 y1) (spec_myPlan.j0 (k + 1) y0 y1)) ∧ (∀ y0 y1, LeO (spec_myPlan.l0 k y0 y1) (spec_myPlan.l0 (k + 1) y0 y1))
  | 0 => ⟨fun _ _ r h => by simp [spec_myPlan.j0] at h, fun _ _ r h => by simp [spec_myPlan.l0] at h⟩
  | k + 1 => by
    obtain ⟨ih0, ih1⟩ := spec_myPlan.mono_l k
    refine ⟨?_, ?_⟩
    · intro y0 y1
      unfold spec_myPlan.j0
      repeat' first
      | (with_reducible exact ih0 _ _)
      | (with_reducible exact ih1 _ _)
      | (with_reducible exact spec_diDir.mono _ _)
      | (with_reducible exact LeO.refl _)
      | (with_reducible exact LeO.none _)
      | (with_reducible refine LeO.ite ?_ ?_)
      | (with_reducible refine LeO.bind ?_ (fun _ => ?_))
      | exact ih0 _ _
      | exact ih1 _ _
      | exact spec_diDir.mono _ _
      | exact LeO.none _
      | refine LeO.ite ?_ ?_
      | refine LeO.bind ?_ (fun _ => ?_)
    · intro y0 y1
      unfold spec_myPlan.l0
      repeat' first
      | (with_reducible exact ih0 _ _)
      | (with_reducible exact ih1 _ _)
      | (with_reducible exact spec_diDir.mono _ _)
      | (with_reducible exact LeO.refl _)
      | (with_reducible exact LeO.none _)
      | (with_reducible refine LeO.ite ?_ ?_)
      | (with_reducible refine LeO.bind ?_ (fun _ => ?_))
      | exact ih0 _ _
      | exact ih1 _ _
      | exact spec_diDir.mono _ _
      | exact LeO.none _
      | refine LeO.ite ?_ ?_
      | refine LeO.bind ?_ (fun _ => ?_)
theorem spec_myPlan.mono : ∀ a0 k, LeO (spec_myPlan.f k a0) (spec_myPlan.f (k + 1) a0) := by
  intro a0 k
  obtain ⟨ih0, ih1⟩ := spec_myPlan.mono_l k
  unfold spec_myPlan.f
  repeat' first
      | (with_reducible exact ih0 _ _)
      | (with_reducible exact ih1 _ _)
      | (with_reducible exact spec_diDir.mono _ _)
      | (with_reducible exact LeO.refl _)
      | (with_reducible exact LeO.none _)
      | (with_reducible refine LeO.ite ?_ ?_)
      | (with_reducible refine LeO.bind ?_ (fun _ => ?_))
      | exact ih0 _ _
      | exact ih1 _ _
      | exact spec_diDir.mono _ _
      | exact LeO.none _
      | refine LeO.ite ?_ ?_
      | refine LeO.bind ?_ (fun _ => ?_)
set_option maxHeartbeats 8000000 in
set_option maxRecDepth 100000 in
theorem spec_myPlan.calls (k : Nat) (a0 : ByteArray) (r : Bool) (w : World) (h : spec_myPlan.f k a0 = some r) :
    Calls Try.prog 52 #[.string a0] w fun e w' => e = .returned (.bool r) ∧ Drawn0 w w' := by
  have H : (if ((a0.size : Int) % 2) = 0 then (spec_myPlan.j0 k a0 (decide ((a0.size : Int) > 120))) else (spec_myPlan.j0 k a0 true)) = some r := h
  clear h
  have HC2 := Aside0.mk H
  clear H
  go_enter Try.func52, Try.ntmps52
  go_upto_region 1 with (fail)
  go_cut [12] (fun v12 wc => ∃ (kq : Nat) (x12_1 : Bool), v12 = .bool x12_1 ∧ Aside0 (spec_myPlan.j0 kq a0 x12_1 = some r) ∧ Aside0 (kq ≤ k) ∧ Drawn0 w wc)
  case first =>
    have H := HC2.out
    clear HC2
    by_cases c3 : ((a0.size : Int) % 2) = 0
    · rw [if_pos c3] at H
      have c3b0 : (((a0.size : Int) % 2) == 0) = true := beq_iff_eq.mpr c3
      have c3b1 : (((a0.size : Int) % 2) != 0) = false := bne_eq_false_iff_eq.mpr c3
      clear c3
      (first | rw [c3b0] | (simp only [i64_w, i32_w]; rw [c3b0]) | skip)
      have H' := Aside0.mk H
      clear H
      go_wp2
      go_meet
      case rel => exact ⟨_, (decide ((a0.size : Int) > 120)), (by first | rfl | (simp; done) | (simp [*]; done)), H', ⟨by first | omega | exact Nat.le_refl _⟩, by repeat (first | exact Drawn0.refl _ | apply Drawn0.step)⟩
    · rw [if_neg c3] at H
      have c3b0 : (((a0.size : Int) % 2) == 0) = false := beq_eq_false_iff_ne.mpr c3
      have c3b1 : (((a0.size : Int) % 2) != 0) = true := bne_iff_ne.mpr c3
      (first | rw [c3b0] | (simp only [i64_w, i32_w]; rw [c3b0]) | skip)
      have H' := Aside0.mk H
      clear H
      go_wp2
      go_meet
      case rel => exact ⟨_, (true), (by first | rfl | (simp; done) | (simp [*]; done)), H', ⟨by first | omega | exact Nat.le_refl _⟩, by repeat (first | exact Drawn0.refl _ | apply Drawn0.step)⟩
  case rest =>
    clear HC2
    try clear p2
    try clear c3
    try clear c3b0
    try clear c3b1
    obtain ⟨kq, x12_1, rfl, HA, HJ1, ⟨mc1, rfl⟩⟩ := hcut
    cases kq with
    | zero => exact absurd HA.out (by simp [spec_myPlan.j0])
    | succ kj1 =>
      have H := HA.out
      clear HA
      simp only [spec_myPlan.j0] at H
      by_cases c4 : x12_1 = true
      · subst c4
        have H1 : (some false) = some r := by rw [if_pos rfl] at H; exact H
        clear H
        have H := H1
        clear H1
        obtain rfl := Option.some.inj H
        go_wp2
        go_ret
        exact ⟨by first | rfl | (simp; done) | (simp [*]; done), by repeat (first | exact Drawn0.refl _ | apply Drawn0.step)⟩
      · replace c4 := Bool.eq_false_iff.mpr c4
        subst c4
        have H1 : (spec_myPlan.l0 kj1 a0 0) = some r := by rw [if_neg (show ¬ (false = true) by decide)] at H; exact H
        clear H
        have H := H1
        clear H1
        have H' := Aside0.mk H
        clear H
        go_wp2
        go_loopg [3] kj1 (fun kq v3 w' => ∃ (x3_2 : Int), v3 = .int .i64 x3_2 ∧ Aside0 (spec_myPlan.l0 kq a0 x3_2 = some r) ∧ Aside0 (kq ≤ kj1) ∧ Drawn0 w w')
        case atStart => exact ⟨(0), (by first | rfl | (simp; done) | (simp [*]; done)), H', ⟨Nat.le_refl _⟩, by repeat (first | exact Drawn0.refl _ | apply Drawn0.step)⟩
        case round =>
          clear H'
          try clear c1
          try clear p2
          try clear c3
          try clear c3b0
          try clear c3b1
          try clear c4
          try clear p2
          obtain ⟨x3_2, rfl, HA, HK2, ⟨m2, rfl⟩⟩ := hrel
          cases gk with
          | zero => exact absurd HA.out (by simp [spec_myPlan.l0])
          | succ k2 =>
            have H := HA.out
            clear HA
            simp only [spec_myPlan.l0] at H
            by_cases c5 : x3_2 < (a0.size : Int)
            · rw [if_pos c5] at H
              have c5b0 : decide (x3_2 < (a0.size : Int)) = true := decide_eq_true c5
              clear c5
              by_cases c6 : 0 ≤ x3_2
              · rw [if_pos c6] at H
                have c6b0 : decide (0 ≤ x3_2) = true := decide_eq_true c6
                clear c6
                by_cases c8 : (bt a0 x3_2) < 48
                · rw [if_pos c8] at H
                  have c8b0 : decide ((bt a0 x3_2) < 48) = true := decide_eq_true c8
                  clear c8
                  obtain rfl := Option.some.inj H
                  have p7 : 0 ≤ (x3_2 : Int) := of_decide_eq_true (by first | (with_reducible assumption) | assumption)
                  have q7 : x3_2 < (a0.size : Int) := of_decide_eq_true (by first | (with_reducible assumption) | assumption)
                  have hx7 := bt_at a0 x3_2
                  replace p7 := eq_true p7
                  replace q7 := eq_true q7
                  go_wp2
                  go_ret
                  exact ⟨by first | rfl | (simp; done) | (simp [*]; done), by repeat (first | exact Drawn0.refl _ | apply Drawn0.step)⟩
                · rw [if_neg c8] at H
                  have c8b0 : decide ((bt a0 x3_2) < 48) = false := decide_eq_false c8
                  clear c8
                  by_cases c10 : (bt a0 x3_2) ≥ 51
                  · rw [if_pos c10] at H
                    have c10b0 : decide (51 ≤ (bt a0 x3_2)) = true := decide_eq_true c10
                    clear c10
                    obtain rfl := Option.some.inj H
                    have p7 : 0 ≤ (x3_2 : Int) := of_decide_eq_true (by first | (with_reducible assumption) | assumption)
                    have q7 : x3_2 < (a0.size : Int) := of_decide_eq_true (by first | (with_reducible assumption) | assumption)
                    have hx7 := bt_at a0 x3_2
                    replace p7 := eq_true p7
                    replace q7 := eq_true q7
                    have p9 : 0 ≤ (x3_2 : Int) := of_decide_eq_true (by first | (with_reducible assumption) | assumption)
                    have q9 : x3_2 < (a0.size : Int) := of_decide_eq_true (by first | (with_reducible assumption) | assumption)
                    have hx9 := bt_at a0 x3_2
                    replace p9 := eq_true p9
                    replace q9 := eq_true q9
                    go_wp2
                    go_ret
                    exact ⟨by first | rfl | (simp; done) | (simp [*]; done), by repeat (first | exact Drawn0.refl _ | apply Drawn0.step)⟩
                  · rw [if_neg c10] at H
                    have c10b0 : decide (51 ≤ (bt a0 x3_2)) = false := decide_eq_false c10
                    clear c10
                    obtain ⟨ji11, hji11⟩ : ∃ j_ : Int, (wrap64 (x3_2 + 1)) = j_ := ⟨_, rfl⟩
                    replace H : (if 0 ≤ (ji11) then (if (ji11) ≤ (wrap64 (x3_2 + 2)) then (if (wrap64 (x3_2 + 2)) ≤ (a0.size : Int) then ((spec_diDir.f k2 (a0.extract ((ji11) : Int).toNat ((wrap64 (x3_2 + 2)) : Int).toNat)).bind fun t102 => (if t102 < 0 then (some false) else (spec_myPlan.l0 k2 a0 (wrap64 (x3_2 + 2))))) else (none)) else (none)) else (none)) = some r := by first | (rw [hji11] at H; exact H) | (simp only [hji11] at H ⊢; exact H)
                    have hji11w : (IntKind.i64.wrap (x3_2 + 1)) = ji11 := (i64_w _).trans hji11
                    by_cases c12 : 0 ≤ (ji11)
                    · rw [if_pos c12] at H
                      have c12b0 := eq_true c12
                      have c12b1 : decide (0 ≤ (ji11)) = true := decide_eq_true c12
                      clear c12
                      by_cases c13 : (ji11) ≤ (wrap64 (x3_2 + 2))
                      · rw [if_pos c13] at H
                        have c13b0 := eq_true c13
                        have c13b1 : decide ((ji11) ≤ (wrap64 (x3_2 + 2))) = true := decide_eq_true c13
                        by_cases c14 : (wrap64 (x3_2 + 2)) ≤ (a0.size : Int)
                        · rw [if_pos c14] at H
                          have c14b0 := eq_true c14
                          have c14b1 : decide ((wrap64 (x3_2 + 2)) ≤ (a0.size : Int)) = true := decide_eq_true c14
                          replace H := Option.bind_eq_some_iff.mp H
                          obtain ⟨t102, A150, H⟩ := H
                          replace H : (if t102 < 0 then (some false) else (spec_myPlan.l0 k2 a0 (wrap64 (x3_2 + 2)))) = some r := H
                          have A15 := Aside0.mk A150
                          clear A150
                          by_cases c16 : t102 < 0
                          · rw [if_pos c16] at H
                            have c16b0 : decide (t102 < 0) = true := decide_eq_true c16
                            clear c16
                            obtain rfl := Option.some.inj H
                            have p7 : 0 ≤ (x3_2 : Int) := of_decide_eq_true (by first | (with_reducible assumption) | assumption)
                            have q7 : x3_2 < (a0.size : Int) := of_decide_eq_true (by first | (with_reducible assumption) | assumption)
                            have hx7 := bt_at a0 x3_2
                            replace p7 := eq_true p7
                            replace q7 := eq_true q7
                            have p9 : 0 ≤ (x3_2 : Int) := of_decide_eq_true (by first | (with_reducible assumption) | assumption)
                            have q9 : x3_2 < (a0.size : Int) := of_decide_eq_true (by first | (with_reducible assumption) | assumption)
                            have hx9 := bt_at a0 x3_2
                            replace p9 := eq_true p9
                            replace q9 := eq_true q9
                            go_wp2_with (first | (go_at_call 89; (with_reducible refine (spec_diDir.calls k2 (a0.extract ((ji11) : Int).toNat ((wrap64 (x3_2 + 2)) : Int).toNat) t102 _ A15.out).mono ?_); rintro e w' ⟨rfl, ⟨nd, rfl⟩⟩))
                            go_ret
                            exact ⟨by first | rfl | (simp; done) | (simp only [← hji11] <;> (first | rfl | simp)) | (simp [*]; done), by repeat (first | exact Drawn0.refl _ | apply Drawn0.step)⟩
                          · rw [if_neg c16] at H
                            have c16b0 : decide (t102 < 0) = false := decide_eq_false c16
                            clear c16
                            have H' := Aside0.mk H
                            clear H
                            have p7 : 0 ≤ (x3_2 : Int) := of_decide_eq_true (by first | (with_reducible assumption) | assumption)
                            have q7 : x3_2 < (a0.size : Int) := of_decide_eq_true (by first | (with_reducible assumption) | assumption)
                            have hx7 := bt_at a0 x3_2
                            replace p7 := eq_true p7
                            replace q7 := eq_true q7
                            have p9 : 0 ≤ (x3_2 : Int) := of_decide_eq_true (by first | (with_reducible assumption) | assumption)
                            have q9 : x3_2 < (a0.size : Int) := of_decide_eq_true (by first | (with_reducible assumption) | assumption)
                            have hx9 := bt_at a0 x3_2
                            replace p9 := eq_true p9
                            replace q9 := eq_true q9
                            go_wp2_with (first | (go_at_call 89; (with_reducible refine (spec_diDir.calls k2 (a0.extract ((ji11) : Int).toNat ((wrap64 (x3_2 + 2)) : Int).toNat) t102 _ A15.out).mono ?_); rintro e w' ⟨rfl, ⟨nd, rfl⟩⟩))
                            go_roundg k2
                            case measure => have := HJ1.out; have := HK2.out; omega
                            case rel => exact ⟨(wrap64 (x3_2 + 2)), (by first | rfl | (simp; done) | (simp [*]; done)), H', ⟨by have := HJ1.out; have := HK2.out; omega⟩, by repeat (first | exact Drawn0.refl _ | apply Drawn0.step)⟩
                        · rw [if_neg c14] at H
                          exact absurd H (by simp)
                      · rw [if_neg c13] at H
                        exact absurd H (by simp)
                    · rw [if_neg c12] at H
                      exact absurd H (by simp)
              · rw [if_neg c6] at H
                exact absurd H (by simp)
            · rw [if_neg c5] at H
              have c5b0 : decide (x3_2 < (a0.size : Int)) = false := decide_eq_false c5
              clear c5
              obtain rfl := Option.some.inj H
              go_wp2
              go_ret
              exact ⟨by first | rfl | (simp; done) | (simp [*]; done), by repeat (first | exact Drawn0.refl _ | apply Drawn0.step)⟩

end Go.Proofs.Ythnheffndhbebaa.P

namespace Go.Proofs.Ythnheffndhbebaa.P
open Go.RowKit Go.Proofs.YthnheffndhbebaaW.PrintWords Go.Proofs.YthnheffndhbebaaW.PrintLast Go.Proofs.YthnheffndhbebaaW.PrintMore
attribute [local go_sem] max2_int min2_int max_two min_two max_three min_three max_four min_four   -- for this text's walks alone
set_option linter.unusedVariables false
set_option linter.unusedSimpArgs false

/-! ### spec_diBack: function 54 -/
def spec_diBack.l0 : Nat → ByteArray → ByteArray → Int → Option (ByteArray)
  | 0, _, _, _ => none
  | k + 1, x0, x3, x4 => if x4 ≥ 0 then (if 0 ≤ x4 then (if x4 ≤ (wrap64 (x4 + 1)) then (if (wrap64 (x4 + 1)) ≤ (x0.size : Int) then ((spec_diDir.f k (x0.extract (x4 : Int).toNat ((wrap64 (x4 + 1)) : Int).toNat)).bind fun t107 => ((spec_diDirs.f).bind fun t108 => (if 0 ≤ (Int.tmod (wrap64 (t107 + 2)) 4) then (if (Int.tmod (wrap64 (t107 + 2)) 4) ≤ (wrap64 ((Int.tmod (wrap64 (t107 + 2)) 4) + 1)) then (if (wrap64 ((Int.tmod (wrap64 (t107 + 2)) 4) + 1)) ≤ (t108.size : Int) then (if x3.size + (t108.extract ((Int.tmod (wrap64 (t107 + 2)) 4) : Int).toNat ((wrap64 ((Int.tmod (wrap64 (t107 + 2)) 4) + 1)) : Int).toNat).size ≤ 9223372036854775807 then (spec_diBack.l0 k x0 (x3 ++ (t108.extract ((Int.tmod (wrap64 (t107 + 2)) 4) : Int).toNat ((wrap64 ((Int.tmod (wrap64 (t107 + 2)) 4) + 1)) : Int).toNat)) (wrap64 (x4 - 1))) else (none)) else (none)) else (none)) else (none)))) else (none)) else (none)) else (none)) else (some x3)
def spec_diBack.f (k : Nat) (a0 : ByteArray) : Option (ByteArray) := spec_diBack.l0 k a0 (⟨#[]⟩ : ByteArray) (wrap64 ((a0.size : Int) - 1))
theorem spec_diBack.mono_l : ∀ k, (∀ y0 y1 y2, LeO (spec_diBack.l0 k y0 y1 y2) (spec_diBack.l0 (k + 1) y0 y1 y2))
  | 0 => fun _ _ _ r h => by simp [spec_diBack.l0] at h
  | k + 1 => by
    have ih0 := spec_diBack.mono_l k
    · intro y0 y1 y2
      unfold spec_diBack.l0
      repeat' first
      | (with_reducible exact ih0 _ _ _)
      | (with_reducible exact spec_diDir.mono _ _)
      | (with_reducible exact LeO.refl _)
      | (with_reducible exact LeO.none _)
      | (with_reducible refine LeO.ite ?_ ?_)
      | (with_reducible refine LeO.bind ?_ (fun _ => ?_))
      | exact ih0 _ _ _
      | exact spec_diDir.mono _ _
      | exact LeO.none _
      | refine LeO.ite ?_ ?_
      | refine LeO.bind ?_ (fun _ => ?_)
theorem spec_diBack.mono : ∀ a0 k, LeO (spec_diBack.f k a0) (spec_diBack.f (k + 1) a0) := by
  intro a0 k
  have ih0 := spec_diBack.mono_l k
  unfold spec_diBack.f
  repeat' first
      | (with_reducible exact ih0 _ _ _)
      | (with_reducible exact spec_diDir.mono _ _)
      | (with_reducible exact LeO.refl _)
      | (with_reducible exact LeO.none _)
      | (with_reducible refine LeO.ite ?_ ?_)
      | (with_reducible refine LeO.bind ?_ (fun _ => ?_))
      | exact ih0 _ _ _
      | exact spec_diDir.mono _ _
      | exact LeO.none _
      | refine LeO.ite ?_ ?_
      | refine LeO.bind ?_ (fun _ => ?_)
set_option maxHeartbeats 8000000 in
set_option maxRecDepth 100000 in
theorem spec_diBack.calls (k : Nat) (a0 : ByteArray) (r : ByteArray) (w : World) (h : spec_diBack.f k a0 = some r) :
    Calls Try.prog 54 #[.string a0] w fun e w' => e = .returned (.string r) ∧ Drawn0 w w' := by
  have H : (spec_diBack.l0 k a0 (⟨#[]⟩ : ByteArray) (wrap64 ((a0.size : Int) - 1))) = some r := h
  clear h
  have H' := Aside0.mk H
  clear H
  go_enter Try.func54, Try.ntmps54
  go_wp2
  go_loopg [3, 4] k (fun kq v3 v4 w' => ∃ (x3_1 : ByteArray) (x4_1 : Int), v3 = .string x3_1 ∧ v4 = .int .i64 x4_1 ∧ Aside0 (spec_diBack.l0 kq a0 x3_1 x4_1 = some r) ∧ Aside0 (kq ≤ k) ∧ Drawn0 w w')
  case atStart => exact ⟨((⟨#[]⟩ : ByteArray)), (wrap64 ((a0.size : Int) - 1)), (by first | rfl | (simp; done) | (simp [*]; done)), (by first | rfl | (simp; done) | (simp [*]; done)), H', ⟨Nat.le_refl _⟩, by repeat (first | exact Drawn0.refl _ | apply Drawn0.step)⟩
  case round =>
    clear H'
    obtain ⟨x3_1, x4_1, rfl, rfl, HA, HK1, ⟨m1, rfl⟩⟩ := hrel
    cases gk with
    | zero => exact absurd HA.out (by simp [spec_diBack.l0])
    | succ k1 =>
      have H := HA.out
      clear HA
      simp only [spec_diBack.l0] at H
      by_cases c2 : x4_1 ≥ 0
      · rw [if_pos c2] at H
        have c2b0 : decide (0 ≤ x4_1) = true := decide_eq_true c2
        clear c2
        by_cases c3 : 0 ≤ x4_1
        · rw [if_pos c3] at H
          have c3b0 := eq_true c3
          have c3b1 : decide (0 ≤ x4_1) = true := decide_eq_true c3
          clear c3
          by_cases c4 : x4_1 ≤ (wrap64 (x4_1 + 1))
          · rw [if_pos c4] at H
            have c4b0 := eq_true c4
            have c4b1 : decide (x4_1 ≤ (wrap64 (x4_1 + 1))) = true := decide_eq_true c4
            by_cases c5 : (wrap64 (x4_1 + 1)) ≤ (a0.size : Int)
            · rw [if_pos c5] at H
              have c5b0 := eq_true c5
              have c5b1 : decide ((wrap64 (x4_1 + 1)) ≤ (a0.size : Int)) = true := decide_eq_true c5
              replace H := Option.bind_eq_some_iff.mp H
              obtain ⟨t107, A60, H⟩ := H
              replace H : ((spec_diDirs.f).bind fun t108 => (if 0 ≤ (Int.tmod (wrap64 (t107 + 2)) 4) then (if (Int.tmod (wrap64 (t107 + 2)) 4) ≤ (wrap64 ((Int.tmod (wrap64 (t107 + 2)) 4) + 1)) then (if (wrap64 ((Int.tmod (wrap64 (t107 + 2)) 4) + 1)) ≤ (t108.size : Int) then (if x3_1.size + (t108.extract ((Int.tmod (wrap64 (t107 + 2)) 4) : Int).toNat ((wrap64 ((Int.tmod (wrap64 (t107 + 2)) 4) + 1)) : Int).toNat).size ≤ 9223372036854775807 then (spec_diBack.l0 k1 a0 (x3_1 ++ (t108.extract ((Int.tmod (wrap64 (t107 + 2)) 4) : Int).toNat ((wrap64 ((Int.tmod (wrap64 (t107 + 2)) 4) + 1)) : Int).toNat)) (wrap64 (x4_1 - 1))) else (none)) else (none)) else (none)) else (none))) = some r := H
              have A6 := Aside0.mk A60
              clear A60
              replace H := Option.bind_eq_some_iff.mp H
              obtain ⟨t108, A70, H⟩ := H
              replace H : (if 0 ≤ (Int.tmod (wrap64 (t107 + 2)) 4) then (if (Int.tmod (wrap64 (t107 + 2)) 4) ≤ (wrap64 ((Int.tmod (wrap64 (t107 + 2)) 4) + 1)) then (if (wrap64 ((Int.tmod (wrap64 (t107 + 2)) 4) + 1)) ≤ (t108.size : Int) then (if x3_1.size + (t108.extract ((Int.tmod (wrap64 (t107 + 2)) 4) : Int).toNat ((wrap64 ((Int.tmod (wrap64 (t107 + 2)) 4) + 1)) : Int).toNat).size ≤ 9223372036854775807 then (spec_diBack.l0 k1 a0 (x3_1 ++ (t108.extract ((Int.tmod (wrap64 (t107 + 2)) 4) : Int).toNat ((wrap64 ((Int.tmod (wrap64 (t107 + 2)) 4) + 1)) : Int).toNat)) (wrap64 (x4_1 - 1))) else (none)) else (none)) else (none)) else (none)) = some r := H
              have A7 := Aside0.mk A70
              clear A70
              obtain ⟨ji8, hji8⟩ : ∃ j_ : Int, (Int.tmod (wrap64 (t107 + 2)) 4) = j_ := ⟨_, rfl⟩
              replace H : (if 0 ≤ (ji8) then (if (ji8) ≤ (wrap64 ((ji8) + 1)) then (if (wrap64 ((ji8) + 1)) ≤ (t108.size : Int) then (if x3_1.size + (t108.extract ((ji8) : Int).toNat ((wrap64 ((ji8) + 1)) : Int).toNat).size ≤ 9223372036854775807 then (spec_diBack.l0 k1 a0 (x3_1 ++ (t108.extract ((ji8) : Int).toNat ((wrap64 ((ji8) + 1)) : Int).toNat)) (wrap64 (x4_1 - 1))) else (none)) else (none)) else (none)) else (none)) = some r := by first | (rw [hji8] at H; exact H) | (simp only [hji8] at H ⊢; exact H)
              (try rw [hji8] at A6)
              (try rw [hji8] at A7)
              by_cases c9 : 0 ≤ (ji8)
              · rw [if_pos c9] at H
                have c9b0 := eq_true c9
                have c9b1 : decide (0 ≤ (ji8)) = true := decide_eq_true c9
                clear c9
                by_cases c10 : (ji8) ≤ (wrap64 ((ji8) + 1))
                · rw [if_pos c10] at H
                  have c10b0 := eq_true c10
                  have c10b1 : decide ((ji8) ≤ (wrap64 ((ji8) + 1))) = true := decide_eq_true c10
                  by_cases c11 : (wrap64 ((ji8) + 1)) ≤ (t108.size : Int)
                  · rw [if_pos c11] at H
                    have c11b0 := eq_true c11
                    have c11b1 : decide ((wrap64 ((ji8) + 1)) ≤ (t108.size : Int)) = true := decide_eq_true c11
                    by_cases c12 : x3_1.size + (t108.extract ((ji8) : Int).toNat ((wrap64 ((ji8) + 1)) : Int).toNat).size ≤ 9223372036854775807
                    · rw [if_pos c12] at H
                      have c12b0 := eq_true c12
                      have c12b1 : decide (x3_1.size + (t108.extract ((ji8) : Int).toNat ((wrap64 ((ji8) + 1)) : Int).toNat).size ≤ 9223372036854775807) = true := decide_eq_true c12
                      try have c12b2 : (9223372036854775807 < x3_1.size + (t108.extract ((ji8) : Int).toNat ((wrap64 ((ji8) + 1)) : Int).toNat).size) = False := eq_false (Nat.not_lt.2 c12)
                      have H' := Aside0.mk H
                      clear H
                      go_wp2_with (first | ((with_reducible refine gate_callee (f := 89) rfl ?_); refine goesL_ (some 18) rfl rfl Try.func89 (by kernel_rfl) rfl #[.string (a0.extract (x4_1 : Int).toNat ((wrap64 (x4_1 + 1)) : Int).toNat)] rfl (by (try simp only [List.map_toArray, List.map_cons, List.map_nil]); first | done | rfl | (simp only [List.length_drop, List.length_take]; rfl)) ?_; (with_reducible refine (spec_diDir.calls k1 (a0.extract (x4_1 : Int).toNat ((wrap64 (x4_1 + 1)) : Int).toNat) t107 _ A6.out).mono ?_); rintro e w' ⟨rfl, ⟨nd, rfl⟩⟩; refine ⟨_, rfl, ?_⟩) | ((with_reducible refine gate_callee (f := 91) rfl ?_); refine goesL_ (some 22) rfl rfl Try.func91 (by kernel_rfl) rfl #[] rfl (by (try simp only [List.map_toArray, List.map_cons, List.map_nil]); first | done | rfl | (simp only [List.length_drop, List.length_take]; rfl)) ?_; (with_reducible refine (spec_diDirs.calls  t108 _ A7.out).mono ?_); rintro e w' ⟨rfl, ⟨nd, rfl⟩⟩; refine ⟨_, rfl, ?_⟩))
                      go_roundg k1
                      case measure => have := HK1.out; omega
                      case rel => exact ⟨(x3_1 ++ (t108.extract ((ji8) : Int).toNat ((wrap64 ((ji8) + 1)) : Int).toNat)), (wrap64 (x4_1 - 1)), (by first | rfl | (simp; done) | (simp only [← hji8] <;> (first | rfl | simp)) | (simp [*]; done)), (by first | rfl | (simp; done) | (simp [*]; done)), H', ⟨by have := HK1.out; omega⟩, by repeat (first | exact Drawn0.refl _ | apply Drawn0.step)⟩
                    · rw [if_neg c12] at H
                      exact absurd H (by simp)
                  · rw [if_neg c11] at H
                    exact absurd H (by simp)
                · rw [if_neg c10] at H
                  exact absurd H (by simp)
              · rw [if_neg c9] at H
                exact absurd H (by simp)
            · rw [if_neg c5] at H
              exact absurd H (by simp)
          · rw [if_neg c4] at H
            exact absurd H (by simp)
        · rw [if_neg c3] at H
          exact absurd H (by simp)
      · rw [if_neg c2] at H
        have c2b0 : decide (0 ≤ x4_1) = false := decide_eq_false c2
        clear c2
        obtain rfl := Option.some.inj H
        go_wp2
        go_ret
        exact ⟨by first | rfl | (simp; done) | (simp [*]; done), by repeat (first | exact Drawn0.refl _ | apply Drawn0.step)⟩

end Go.Proofs.Ythnheffndhbebaa.P

namespace Go.Proofs.Ythnheffndhbebaa.P
open Go.RowKit Go.Proofs.YthnheffndhbebaaW.PrintWords Go.Proofs.YthnheffndhbebaaW.PrintLast Go.Proofs.YthnheffndhbebaaW.PrintMore
attribute [local go_sem] max2_int min2_int max_two min_two max_three min_three max_four min_four   -- for this text's walks alone
set_option linter.unusedVariables false
set_option linter.unusedSimpArgs false

/-! ### spec_BackPlan: function 16 -/
def spec_BackPlan.l0 : Nat → ByteArray → ByteArray → Int → Option (ByteArray × Bool)
  | 0, _, _, _ => none
  | k + 1, x0, x4, x5 => if x5 ≥ 0 then (if 0 ≤ x5 then (if x5 ≤ (wrap64 (x5 + 1)) then (if (wrap64 (x5 + 1)) ≤ (x0.size : Int) then (if 0 ≤ (wrap64 (x5 + 1)) then (if (wrap64 (x5 + 1)) ≤ (wrap64 (x5 + 2)) then (if (wrap64 (x5 + 2)) ≤ (x0.size : Int) then ((spec_diBack.f k (x0.extract ((wrap64 (x5 + 1)) : Int).toNat ((wrap64 (x5 + 2)) : Int).toNat)).bind fun t110 => (if (x0.extract (x5 : Int).toNat ((wrap64 (x5 + 1)) : Int).toNat).size + t110.size ≤ 9223372036854775807 then (if x4.size + ((x0.extract (x5 : Int).toNat ((wrap64 (x5 + 1)) : Int).toNat) ++ t110).size ≤ 9223372036854775807 then (spec_BackPlan.l0 k x0 (x4 ++ ((x0.extract (x5 : Int).toNat ((wrap64 (x5 + 1)) : Int).toNat) ++ t110)) (wrap64 (x5 - 2))) else (none)) else (none))) else (none)) else (none)) else (none)) else (none)) else (none)) else (none)) else (some (x4, true))
def spec_BackPlan.f (k : Nat) (a0 : ByteArray) : Option (ByteArray × Bool) := (spec_myPlan.f k a0).bind fun t109 => (if t109 = true then (spec_BackPlan.l0 k a0 (⟨#[]⟩ : ByteArray) (wrap64 ((a0.size : Int) - 2))) else (some ((⟨#[]⟩ : ByteArray), false)))
theorem spec_BackPlan.mono_l : ∀ k, (∀ y0 y1 y2, LeO (spec_BackPlan.l0 k y0 y1 y2) (spec_BackPlan.l0 (k + 1) y0 y1 y2))
  | 0 => fun _ _ _ r h => by simp [spec_BackPlan.l0] at h
  | k + 1 => by
    have ih0 := spec_BackPlan.mono_l k
    · intro y0 y1 y2
      unfold spec_BackPlan.l0
      repeat' first
      | (with_reducible exact ih0 _ _ _)
      | (with_reducible exact spec_diBack.mono _ _)
      | (with_reducible exact spec_myPlan.mono _ _)
      | (with_reducible exact LeO.refl _)
      | (with_reducible exact LeO.none _)
      | (with_reducible refine LeO.ite ?_ ?_)
      | (with_reducible refine LeO.bind ?_ (fun _ => ?_))
      | exact ih0 _ _ _
      | exact spec_diBack.mono _ _
      | exact spec_myPlan.mono _ _
      | exact LeO.none _
      | refine LeO.ite ?_ ?_
      | refine LeO.bind ?_ (fun _ => ?_)
theorem spec_BackPlan.mono : ∀ a0 k, LeO (spec_BackPlan.f k a0) (spec_BackPlan.f (k + 1) a0) := by
  intro a0 k
  have ih0 := spec_BackPlan.mono_l k
  unfold spec_BackPlan.f
  repeat' first
      | (with_reducible exact ih0 _ _ _)
      | (with_reducible exact spec_diBack.mono _ _)
      | (with_reducible exact spec_myPlan.mono _ _)
      | (with_reducible exact LeO.refl _)
      | (with_reducible exact LeO.none _)
      | (with_reducible refine LeO.ite ?_ ?_)
      | (with_reducible refine LeO.bind ?_ (fun _ => ?_))
      | exact ih0 _ _ _
      | exact spec_diBack.mono _ _
      | exact spec_myPlan.mono _ _
      | exact LeO.none _
      | refine LeO.ite ?_ ?_
      | refine LeO.bind ?_ (fun _ => ?_)
set_option maxHeartbeats 8000000 in
set_option maxRecDepth 100000 in
theorem spec_BackPlan.calls (k : Nat) (a0 : ByteArray) (r1 : ByteArray) (r2 : Bool) (w : World) (h : spec_BackPlan.f k a0 = some (r1, r2)) :
    Calls Try.prog 16 #[.string a0] w fun e w' => e = .returned (.tuple #[.string r1, .bool r2]) ∧ Drawn0 w w' := by
  have H : ((spec_myPlan.f k a0).bind fun t109 => (if t109 = true then (spec_BackPlan.l0 k a0 (⟨#[]⟩ : ByteArray) (wrap64 ((a0.size : Int) - 2))) else (some ((⟨#[]⟩ : ByteArray), false)))) = some (r1, r2) := h
  clear h
  replace H := Option.bind_eq_some_iff.mp H
  obtain ⟨t109, A20, H⟩ := H
  replace H : (if t109 = true then (spec_BackPlan.l0 k a0 (⟨#[]⟩ : ByteArray) (wrap64 ((a0.size : Int) - 2))) else (some ((⟨#[]⟩ : ByteArray), false))) = some (r1, r2) := H
  have A2 := Aside0.mk A20
  clear A20
  by_cases c3 : t109 = true
  · subst c3
    have H1 : (spec_BackPlan.l0 k a0 (⟨#[]⟩ : ByteArray) (wrap64 ((a0.size : Int) - 2))) = some (r1, r2) := by rw [if_pos rfl] at H; exact H
    clear H
    have H := H1
    clear H1
    have H' := Aside0.mk H
    clear H
    go_enter Try.func16, Try.ntmps16
    go_wp2_with (first | (go_at_call 52; (with_reducible refine (spec_myPlan.calls k a0 true _ A2.out).mono ?_); rintro e w' ⟨rfl, ⟨nd, rfl⟩⟩; (try first | exact ⟨rfl, _, World.drewN_drewN _ _ _⟩ | exact ⟨rfl, _, Eq.trans (World.drewN_drewN _ _ _) (congrArg (World.drewN _) (Nat.add_assoc _ _ _))⟩)))
    repeat (go_quiet (first | (go_at_call 52; (with_reducible refine (spec_myPlan.calls k a0 true _ A2.out).mono ?_); rintro e w' ⟨rfl, ⟨nd, rfl⟩⟩; (try first | exact ⟨rfl, _, World.drewN_drewN _ _ _⟩ | exact ⟨rfl, _, Eq.trans (World.drewN_drewN _ _ _) (congrArg (World.drewN _) (Nat.add_assoc _ _ _))⟩))); try go_wp2_with (first | (go_at_call 52; (with_reducible refine (spec_myPlan.calls k a0 true _ A2.out).mono ?_); rintro e w' ⟨rfl, ⟨nd, rfl⟩⟩; (try first | exact ⟨rfl, _, World.drewN_drewN _ _ _⟩ | exact ⟨rfl, _, Eq.trans (World.drewN_drewN _ _ _) (congrArg (World.drewN _) (Nat.add_assoc _ _ _))⟩))))
    go_loopg [4, 5] k (fun kq v4 v5 w' => ∃ (x4_1 : ByteArray) (x5_1 : Int), v4 = .string x4_1 ∧ v5 = .int .i64 x5_1 ∧ Aside0 (spec_BackPlan.l0 kq a0 x4_1 x5_1 = some (r1, r2)) ∧ Aside0 (kq ≤ k) ∧ Drawn0 w w')
    case atStart => exact ⟨((⟨#[]⟩ : ByteArray)), (wrap64 ((a0.size : Int) - 2)), (by first | rfl | (simp; done) | (simp [*]; done)), (by first | rfl | (simp; done) | (simp [*]; done)), H', ⟨Nat.le_refl _⟩, by repeat (first | exact Drawn0.refl _ | apply Drawn0.step)⟩
    case round =>
      clear H'
      try clear c1
      try clear p2
      try clear c3
      obtain ⟨x4_1, x5_1, rfl, rfl, HA, HK1, ⟨m1, rfl⟩⟩ := hrel
      cases gk with
      | zero => exact absurd HA.out (by simp [spec_BackPlan.l0])
      | succ k1 =>
        have H := HA.out
        clear HA
        simp only [spec_BackPlan.l0] at H
        by_cases c4 : x5_1 ≥ 0
        · rw [if_pos c4] at H
          have c4b0 : decide (0 ≤ x5_1) = true := decide_eq_true c4
          clear c4
          by_cases c5 : 0 ≤ x5_1
          · rw [if_pos c5] at H
            have c5b0 := eq_true c5
            have c5b1 : decide (0 ≤ x5_1) = true := decide_eq_true c5
            clear c5
            by_cases c6 : x5_1 ≤ (wrap64 (x5_1 + 1))
            · rw [if_pos c6] at H
              have c6b0 := eq_true c6
              have c6b1 : decide (x5_1 ≤ (wrap64 (x5_1 + 1))) = true := decide_eq_true c6
              by_cases c7 : (wrap64 (x5_1 + 1)) ≤ (a0.size : Int)
              · rw [if_pos c7] at H
                have c7b0 := eq_true c7
                have c7b1 : decide ((wrap64 (x5_1 + 1)) ≤ (a0.size : Int)) = true := decide_eq_true c7
                obtain ⟨ji8, hji8⟩ : ∃ j_ : Int, (wrap64 (x5_1 + 1)) = j_ := ⟨_, rfl⟩
                replace H : (if 0 ≤ (ji8) then (if (ji8) ≤ (wrap64 (x5_1 + 2)) then (if (wrap64 (x5_1 + 2)) ≤ (a0.size : Int) then ((spec_diBack.f k1 (a0.extract ((ji8) : Int).toNat ((wrap64 (x5_1 + 2)) : Int).toNat)).bind fun t110 => (if (a0.extract (x5_1 : Int).toNat ((ji8) : Int).toNat).size + t110.size ≤ 9223372036854775807 then (if x4_1.size + ((a0.extract (x5_1 : Int).toNat ((ji8) : Int).toNat) ++ t110).size ≤ 9223372036854775807 then (spec_BackPlan.l0 k1 a0 (x4_1 ++ ((a0.extract (x5_1 : Int).toNat ((ji8) : Int).toNat) ++ t110)) (wrap64 (x5_1 - 2))) else (none)) else (none))) else (none)) else (none)) else (none)) = some (r1, r2) := by first | (rw [hji8] at H; exact H) | (simp only [hji8] at H ⊢; exact H)
                (try rw [hji8] at c6b0)
                (try rw [hji8] at c6b1)
                (try rw [hji8] at c6)
                (try rw [hji8] at c7b0)
                (try rw [hji8] at c7b1)
                (try rw [hji8] at c7)
                have hji8w : (IntKind.i64.wrap (x5_1 + 1)) = ji8 := (i64_w _).trans hji8
                by_cases c9 : 0 ≤ (ji8)
                · rw [if_pos c9] at H
                  have c9b0 := eq_true c9
                  have c9b1 : decide (0 ≤ (ji8)) = true := decide_eq_true c9
                  clear c9
                  by_cases c10 : (ji8) ≤ (wrap64 (x5_1 + 2))
                  · rw [if_pos c10] at H
                    have c10b0 := eq_true c10
                    have c10b1 : decide ((ji8) ≤ (wrap64 (x5_1 + 2))) = true := decide_eq_true c10
                    by_cases c11 : (wrap64 (x5_1 + 2)) ≤ (a0.size : Int)
                    · rw [if_pos c11] at H
                      have c11b0 := eq_true c11
                      have c11b1 : decide ((wrap64 (x5_1 + 2)) ≤ (a0.size : Int)) = true := decide_eq_true c11
                      replace H := Option.bind_eq_some_iff.mp H
                      obtain ⟨t110, A120, H⟩ := H
                      replace H : (if (a0.extract (x5_1 : Int).toNat ((ji8) : Int).toNat).size + t110.size ≤ 9223372036854775807 then (if x4_1.size + ((a0.extract (x5_1 : Int).toNat ((ji8) : Int).toNat) ++ t110).size ≤ 9223372036854775807 then (spec_BackPlan.l0 k1 a0 (x4_1 ++ ((a0.extract (x5_1 : Int).toNat ((ji8) : Int).toNat) ++ t110)) (wrap64 (x5_1 - 2))) else (none)) else (none)) = some (r1, r2) := H
                      have A12 := Aside0.mk A120
                      clear A120
                      by_cases c13 : (a0.extract (x5_1 : Int).toNat ((ji8) : Int).toNat).size + t110.size ≤ 9223372036854775807
                      · rw [if_pos c13] at H
                        have c13b0 := eq_true c13
                        have c13b1 : decide ((a0.extract (x5_1 : Int).toNat ((ji8) : Int).toNat).size + t110.size ≤ 9223372036854775807) = true := decide_eq_true c13
                        try have c13b2 : (9223372036854775807 < (a0.extract (x5_1 : Int).toNat ((ji8) : Int).toNat).size + t110.size) = False := eq_false (Nat.not_lt.2 c13)
                        by_cases c14 : x4_1.size + ((a0.extract (x5_1 : Int).toNat ((ji8) : Int).toNat) ++ t110).size ≤ 9223372036854775807
                        · rw [if_pos c14] at H
                          have c14b0 := eq_true c14
                          have c14b1 : decide (x4_1.size + ((a0.extract (x5_1 : Int).toNat ((ji8) : Int).toNat) ++ t110).size ≤ 9223372036854775807) = true := decide_eq_true c14
                          try have c14b2 : (9223372036854775807 < x4_1.size + ((a0.extract (x5_1 : Int).toNat ((ji8) : Int).toNat) ++ t110).size) = False := eq_false (Nat.not_lt.2 c14)
                          have H' := Aside0.mk H
                          clear H
                          go_wp2_with (first | (go_at_call 54; (with_reducible refine (spec_diBack.calls k1 (a0.extract ((ji8) : Int).toNat ((wrap64 (x5_1 + 2)) : Int).toNat) t110 _ A12.out).mono ?_); rintro e w' ⟨rfl, ⟨nd, rfl⟩⟩; (try first | exact ⟨rfl, _, World.drewN_drewN _ _ _⟩ | exact ⟨rfl, _, Eq.trans (World.drewN_drewN _ _ _) (congrArg (World.drewN _) (Nat.add_assoc _ _ _))⟩)))
                          repeat (go_quiet (first | (go_at_call 54; (with_reducible refine (spec_diBack.calls k1 (a0.extract ((ji8) : Int).toNat ((wrap64 (x5_1 + 2)) : Int).toNat) t110 _ A12.out).mono ?_); rintro e w' ⟨rfl, ⟨nd, rfl⟩⟩; (try first | exact ⟨rfl, _, World.drewN_drewN _ _ _⟩ | exact ⟨rfl, _, Eq.trans (World.drewN_drewN _ _ _) (congrArg (World.drewN _) (Nat.add_assoc _ _ _))⟩))); try go_wp2_with (first | (go_at_call 54; (with_reducible refine (spec_diBack.calls k1 (a0.extract ((ji8) : Int).toNat ((wrap64 (x5_1 + 2)) : Int).toNat) t110 _ A12.out).mono ?_); rintro e w' ⟨rfl, ⟨nd, rfl⟩⟩; (try first | exact ⟨rfl, _, World.drewN_drewN _ _ _⟩ | exact ⟨rfl, _, Eq.trans (World.drewN_drewN _ _ _) (congrArg (World.drewN _) (Nat.add_assoc _ _ _))⟩))))
                          go_roundg k1
                          case measure => have := HK1.out; omega
                          case rel => exact ⟨(x4_1 ++ ((a0.extract (x5_1 : Int).toNat ((ji8) : Int).toNat) ++ t110)), (wrap64 (x5_1 - 2)), (by first | rfl | (simp; done) | (simp only [← hji8] <;> (first | rfl | simp)) | (simp [*]; done)), (by first | rfl | (simp; done) | (simp [*]; done)), H', ⟨by have := HK1.out; omega⟩, by repeat (first | exact Drawn0.refl _ | apply Drawn0.step)⟩
                        · rw [if_neg c14] at H
                          exact absurd H (by simp)
                      · rw [if_neg c13] at H
                        exact absurd H (by simp)
                    · rw [if_neg c11] at H
                      exact absurd H (by simp)
                  · rw [if_neg c10] at H
                    exact absurd H (by simp)
                · rw [if_neg c9] at H
                  exact absurd H (by simp)
              · rw [if_neg c7] at H
                exact absurd H (by simp)
            · rw [if_neg c6] at H
              exact absurd H (by simp)
          · rw [if_neg c5] at H
            exact absurd H (by simp)
        · rw [if_neg c4] at H
          have c4b0 : decide (0 ≤ x5_1) = false := decide_eq_false c4
          clear c4
          simp only [Option.some.injEq, Prod.mk.injEq] at H
          obtain ⟨rfl, rfl⟩ := H
          go_wp2
          repeat (go_quiet (fail); try go_wp2)
          go_ret2
          exact ⟨by first | rfl | (simp; done) | (simp [*]; done), by repeat (first | exact Drawn0.refl _ | apply Drawn0.step)⟩
  · replace c3 := Bool.eq_false_iff.mpr c3
    subst c3
    have H1 : (some ((⟨#[]⟩ : ByteArray), false)) = some (r1, r2) := by rw [if_neg (show ¬ (false = true) by decide)] at H; exact H
    clear H
    have H := H1
    clear H1
    simp only [Option.some.injEq, Prod.mk.injEq] at H
    obtain ⟨rfl, rfl⟩ := H
    go_enter Try.func16, Try.ntmps16
    go_wp2_with (first | (go_at_call 52; (with_reducible refine (spec_myPlan.calls k a0 false _ A2.out).mono ?_); rintro e w' ⟨rfl, ⟨nd, rfl⟩⟩; (try first | exact ⟨rfl, _, World.drewN_drewN _ _ _⟩ | exact ⟨rfl, _, Eq.trans (World.drewN_drewN _ _ _) (congrArg (World.drewN _) (Nat.add_assoc _ _ _))⟩)))
    repeat (go_quiet (first | (go_at_call 52; (with_reducible refine (spec_myPlan.calls k a0 false _ A2.out).mono ?_); rintro e w' ⟨rfl, ⟨nd, rfl⟩⟩; (try first | exact ⟨rfl, _, World.drewN_drewN _ _ _⟩ | exact ⟨rfl, _, Eq.trans (World.drewN_drewN _ _ _) (congrArg (World.drewN _) (Nat.add_assoc _ _ _))⟩))); try go_wp2_with (first | (go_at_call 52; (with_reducible refine (spec_myPlan.calls k a0 false _ A2.out).mono ?_); rintro e w' ⟨rfl, ⟨nd, rfl⟩⟩; (try first | exact ⟨rfl, _, World.drewN_drewN _ _ _⟩ | exact ⟨rfl, _, Eq.trans (World.drewN_drewN _ _ _) (congrArg (World.drewN _) (Nat.add_assoc _ _ _))⟩))))
    go_ret2
    exact ⟨by first | rfl | (simp; done) | (simp [*]; done), by repeat (first | exact Drawn0.refl _ | apply Drawn0.step)⟩

end Go.Proofs.Ythnheffndhbebaa.P

namespace Go.Proofs.Ythnheffndhbebaa
open Go.RowKit Go.Proofs.YthnheffndhbebaaW.PrintWords Go.Proofs.YthnheffndhbebaaW.PrintLast
set_option linter.unusedVariables false
set_option linter.unusedSimpArgs false

/-- Block g holds the cells cs of type t; what is frozen of it lies behind them. -/
def Blk (w : World) (g : Nat) (t : TypeId) (cs : Array Value) (fz : Nat × Nat) : Prop := w.heap[g]? = some (.cells cs t fz)

section
variable {w w' : World} {g : Nat} {t : TypeId} {cs : Array Value} {fz : Nat × Nat}
theorem Blk.lt (h : Blk w g t cs fz) : g < w.heap.size := by
  rcases Nat.lt_or_ge g w.heap.size with hlt | hge
  · exact hlt
  · unfold Blk at h; rw [Array.getElem?_eq_none hge] at h; cases h
theorem Blk.cell (h : Blk w g t cs fz) (i : Nat) : w.cell? ⟨g, i, none⟩ = cs[i]? := cell_of_row w g i cs t fz h
theorem Blk.frozen (h : Blk w g t cs fz) (i : Nat) (hi : i < fz.1 ∨ fz.2 ≤ i) : w.frozen? ⟨g, i, none⟩ = false := by
  unfold Blk at h
  simp [World.frozen?, h]
  omega
theorem Blk.drewN (h : Blk w g t cs fz) (n : Nat) : Blk (w.drewN n) g t cs fz := h
theorem Blk.alloc (h : Blk w g t cs fz) (o : Obj) : Blk (w.alloc o) g t cs fz := (Below.heap_alloc w o g h.lt).trans h
theorem Blk.set_ (h : Blk w g t cs fz) (i : Nat) (u : Value) : Blk (w.setCell ⟨g, i, none⟩ u) g t (cs.setIfInBounds i u) fz := by
  unfold Blk at h ⊢
  simp [World.setCell, Array.getElem?_modify, h]
theorem Blk.far (h : Blk w g t cs fz) {p : Addr} (hp : g ≠ p.block) (u : Value) : Blk (w.setCell p u) g t cs fz := (Below.heap_setCell w p u g hp).trans h
theorem Blk.below {B : Nat} (h : Blk w g t cs fz) (hb : Below B w w') (hg : g < B) : Blk w' g t cs fz := (hb.block g hg).trans h
theorem Blk.below_all (h : Blk w g t cs fz) (hb : Below w.heap.size w w') : Blk w' g t cs fz := h.below hb h.lt
end
theorem Blk.bytes (W : World) (e : TypeId) (s : ByteArray) : Blk (Lib.bytesWorld W e s) W.heap.size e (Lib.bytesCells W e s) ((Lib.bytesCells W e s).size, (Lib.bytesCells W e s).size + 1) := Lib.bytesWorld_at_new W e s

theorem ret_str {a b : ByteArray} (h : a = b) : Ending.returned (.string a) = .returned (.string b) := by rw [h]
theorem ret_i64 {a b : Int} (h : a = b) : Ending.returned (.int .i64 a) = .returned (.int .i64 b) := by rw [h]
theorem ret_bool {a b : Bool} (h : a = b) : Ending.returned (.bool a) = .returned (.bool b) := by rw [h]
end Go.Proofs.Ythnheffndhbebaa

namespace Go.Proofs
open Go.Shelf
def Try.lays137_ren : Go.Shelf.Ren := ⟨fun | 137 => 53 | 217 => 90 | 266 => 105 | n => n, fun | 9 => 9 | 5 => 5 | 3 => 3 | n => n, fun | n => n⟩
theorem Try.lays137 : Go.Proofs.Lays.n137 Try.prog Try.lays137_ren := {
  mixed := by kernel_rfl
  f137 := Try.func53.trans (congrArg some (by kernel_rfl))
  f217 := Try.func90.trans (congrArg some (by kernel_rfl))
  f266 := Try.func105.trans (congrArg some (by kernel_rfl))
  t3 := Try.underlying3
  a3 := Try.isAgg3
  z3 := Try.sizeOf3
  v3 := Try.zeroValue3
  t5 := Try.underlying5
  a5 := Try.isAgg5
  z5 := Try.sizeOf5
  v5 := Try.zeroValue5
  t9 := Try.underlying9
  a9 := Try.isAgg9
  z9 := Try.sizeOf9
  v9 := Try.zeroValue9 }
open Go.RowKit in
/-- strings.IndexByte: "IndexByte returns the index of the first instance of c in s, or -1 if c is not present in s.": IT RETURNS 'Lib.indexByte s c'; the world is as it was. (LAID: no walk: one application.) -/
theorem Try.strings_IndexByte (s : ByteArray) (c : Int) (w : World) :
    Calls Try.prog 53 #[.string s, .int .u8 c] w fun e w' => e = .returned (.int .i64 (Lib.indexByte s.data.toList c.toNat.toUInt8)) ∧ w' = w := Any.strings_IndexByte Try.lays137 s c w
def Try.lays217_ren : Go.Shelf.Ren := ⟨fun | 217 => 90 | 266 => 105 | n => n, fun | 9 => 9 | 5 => 5 | 3 => 3 | n => n, fun | n => n⟩
theorem Try.lays217 : Go.Proofs.Lays.n217 Try.prog Try.lays217_ren := {
  mixed := by kernel_rfl
  f217 := Try.func90.trans (congrArg some (by kernel_rfl))
  f266 := Try.func105.trans (congrArg some (by kernel_rfl))
  t3 := Try.underlying3
  a3 := Try.isAgg3
  z3 := Try.sizeOf3
  v3 := Try.zeroValue3
  t5 := Try.underlying5
  a5 := Try.isAgg5
  z5 := Try.sizeOf5
  v5 := Try.zeroValue5
  t9 := Try.underlying9
  a9 := Try.isAgg9
  z9 := Try.sizeOf9
  v9 := Try.zeroValue9 }
open Go.RowKit Go.Lib in
/-- internal/stringslite.IndexByte (what strings.IndexByte calls): IT RETURNS 'Lib.indexByte s c'; the world is as it was. (LAID: no walk: one application.) -/
theorem Try.stringslite_IndexByte (s : ByteArray) (c : Int) (w : World) :
    Calls Try.prog 90 #[.string s, .int .u8 c] w fun e w' => e = .returned (.int .i64 (Lib.indexByte s.data.toList c.toNat.toUInt8)) ∧ w' = w := Any.stringslite_IndexByte Try.lays217 s c w
end Go.Proofs

namespace Go.Proofs.Ythnheffndhbebaa
open Go.RowKit Go.Proofs.YthnheffndhbebaaW.PrintWords Go.Proofs.YthnheffndhbebaaW.PrintLast
set_option linter.unusedVariables false
set_option linter.unusedSimpArgs false

def strings_IndexByte.f (a0 : ByteArray) (a1 : Int) : Option Int := some (Lib.indexByte a0.data.toList a1.toNat.toUInt8)
theorem strings_IndexByte.calls (a0 : ByteArray) (a1 : Int) (r : Int) (w : World) (h : strings_IndexByte.f a0 a1 = some r) :
    Calls Try.prog 53 #[.string a0, .int .u8 a1] w fun e w' => e = .returned (.int .i64 r) ∧ Drawn0 w w' := by
  unfold strings_IndexByte.f at h
  obtain rfl := Option.some.inj h
  exact (Try.strings_IndexByte a0 a1 w).mono fun e w' ⟨h1, h2⟩ => ⟨h1, by rw [h2]; exact Drawn0.refl w⟩
end Go.Proofs.Ythnheffndhbebaa

namespace Go.Proofs.Ythnheffndhbebaa.P
open Go.RowKit Go.Proofs.YthnheffndhbebaaW.PrintWords Go.Proofs.YthnheffndhbebaaW.PrintLast Go.Proofs.YthnheffndhbebaaW.PrintMore
attribute [local go_sem] max2_int min2_int max_two min_two max_three min_three max_four min_four   -- for this text's walks alone
set_option linter.unusedVariables false
set_option linter.unusedSimpArgs false

/-! ### impl_IsPlan: function 15 -/
def impl_IsPlan.l0 : Nat → ByteArray → Int → Option (Bool)
  | 0, _, _ => none
  | k + 1, x0, x3 => if (wrap64 (x3 + 1)) < (x0.size : Int) then (if 0 ≤ x3 then (if x3 < (x0.size : Int) then (if (bt x0 x3) < 48 then (some false) else (if (bt x0 x3) > 50 then (some false) else (if 0 ≤ (wrap64 (x3 + 1)) then ((strings_IndexByte.f (⟨#[110, 101, 115, 119]⟩ : ByteArray) (bt x0 (wrap64 (x3 + 1)))).bind fun t104 => (if t104 < 0 then (some false) else (impl_IsPlan.l0 k x0 (wrap64 (x3 + 2))))) else (none)))) else (none)) else (none)) else (if ((x0.size : Int) % 2) = 0 then (some (decide ((x0.size : Int) ≤ 120))) else (some false))
def impl_IsPlan.f (k : Nat) (a0 : ByteArray) : Option (Bool) := impl_IsPlan.l0 k a0 0
theorem impl_IsPlan.mono_l : ∀ k, (∀ y0 y1, LeO (impl_IsPlan.l0 k y0 y1) (impl_IsPlan.l0 (k + 1) y0 y1))
  | 0 => fun _ _ r h => by simp [impl_IsPlan.l0] at h
  | k + 1 => by
    have ih0 := impl_IsPlan.mono_l k
    · intro y0 y1
      unfold impl_IsPlan.l0
      repeat' first
      | (with_reducible exact ih0 _ _)
      | (with_reducible exact LeO.refl _)
      | (with_reducible exact LeO.none _)
      | (with_reducible refine LeO.ite ?_ ?_)
      | (with_reducible refine LeO.bind ?_ (fun _ => ?_))
      | exact ih0 _ _
      | exact LeO.none _
      | refine LeO.ite ?_ ?_
      | refine LeO.bind ?_ (fun _ => ?_)
theorem impl_IsPlan.mono : ∀ a0 k, LeO (impl_IsPlan.f k a0) (impl_IsPlan.f (k + 1) a0) := by
  intro a0 k
  have ih0 := impl_IsPlan.mono_l k
  unfold impl_IsPlan.f
  repeat' first
      | (with_reducible exact ih0 _ _)
      | (with_reducible exact LeO.refl _)
      | (with_reducible exact LeO.none _)
      | (with_reducible refine LeO.ite ?_ ?_)
      | (with_reducible refine LeO.bind ?_ (fun _ => ?_))
      | exact ih0 _ _
      | exact LeO.none _
      | refine LeO.ite ?_ ?_
      | refine LeO.bind ?_ (fun _ => ?_)
set_option maxHeartbeats 8000000 in
set_option maxRecDepth 100000 in
theorem impl_IsPlan.calls (k : Nat) (a0 : ByteArray) (r : Bool) (w : World) (h : impl_IsPlan.f k a0 = some r) :
    Calls Try.prog 15 #[.string a0] w fun e w' => e = .returned (.bool r) ∧ Drawn0 w w' := by
  have H : (impl_IsPlan.l0 k a0 0) = some r := h
  clear h
  have H' := Aside0.mk H
  clear H
  go_enter Try.func15, Try.ntmps15
  go_wp2
  go_loopg [3] k (fun kq v3 w' => ∃ (x3_1 : Int), v3 = .int .i64 x3_1 ∧ Aside0 (impl_IsPlan.l0 kq a0 x3_1 = some r) ∧ Aside0 (kq ≤ k) ∧ Drawn0 w w')
  case atStart => exact ⟨(0), (by first | rfl | (simp; done) | (simp [*]; done)), H', ⟨Nat.le_refl _⟩, by repeat (first | exact Drawn0.refl _ | apply Drawn0.step)⟩
  case round =>
    clear H'
    try clear c1
    obtain ⟨x3_1, rfl, HA, HK1, ⟨m1, rfl⟩⟩ := hrel
    cases gk with
    | zero => exact absurd HA.out (by simp [impl_IsPlan.l0])
    | succ k1 =>
      have H := HA.out
      clear HA
      simp only [impl_IsPlan.l0] at H
      by_cases c2 : (wrap64 (x3_1 + 1)) < (a0.size : Int)
      · rw [if_pos c2] at H
        have c2b0 : decide ((wrap64 (x3_1 + 1)) < (a0.size : Int)) = true := decide_eq_true c2
        clear c2
        by_cases c3 : 0 ≤ x3_1
        · rw [if_pos c3] at H
          have c3b0 : decide (0 ≤ x3_1) = true := decide_eq_true c3
          clear c3
          by_cases c4 : x3_1 < (a0.size : Int)
          · rw [if_pos c4] at H
            have c4b0 : decide (x3_1 < (a0.size : Int)) = true := decide_eq_true c4
            clear c4
            by_cases c6 : (bt a0 x3_1) < 48
            · rw [if_pos c6] at H
              have c6b0 : decide ((bt a0 x3_1) < 48) = true := decide_eq_true c6
              clear c6
              obtain rfl := Option.some.inj H
              have p5 : 0 ≤ (x3_1 : Int) := of_decide_eq_true (by first | (with_reducible assumption) | assumption)
              have q5 : x3_1 < (a0.size : Int) := of_decide_eq_true (by first | (with_reducible assumption) | assumption)
              have hx5 := bt_at a0 x3_1
              replace p5 := eq_true p5
              replace q5 := eq_true q5
              go_wp2
              go_ret
              exact ⟨by first | rfl | (simp; done) | (simp [*]; done), by repeat (first | exact Drawn0.refl _ | apply Drawn0.step)⟩
            · rw [if_neg c6] at H
              have c6b0 : decide ((bt a0 x3_1) < 48) = false := decide_eq_false c6
              clear c6
              by_cases c8 : (bt a0 x3_1) > 50
              · rw [if_pos c8] at H
                have c8b0 : decide (50 < (bt a0 x3_1)) = true := decide_eq_true c8
                clear c8
                obtain rfl := Option.some.inj H
                have p5 : 0 ≤ (x3_1 : Int) := of_decide_eq_true (by first | (with_reducible assumption) | assumption)
                have q5 : x3_1 < (a0.size : Int) := of_decide_eq_true (by first | (with_reducible assumption) | assumption)
                have hx5 := bt_at a0 x3_1
                replace p5 := eq_true p5
                replace q5 := eq_true q5
                have p7 : 0 ≤ (x3_1 : Int) := of_decide_eq_true (by first | (with_reducible assumption) | assumption)
                have q7 : x3_1 < (a0.size : Int) := of_decide_eq_true (by first | (with_reducible assumption) | assumption)
                have hx7 := bt_at a0 x3_1
                replace p7 := eq_true p7
                replace q7 := eq_true q7
                go_wp2
                go_ret
                exact ⟨by first | rfl | (simp; done) | (simp [*]; done), by repeat (first | exact Drawn0.refl _ | apply Drawn0.step)⟩
              · rw [if_neg c8] at H
                have c8b0 : decide (50 < (bt a0 x3_1)) = false := decide_eq_false c8
                clear c8
                obtain ⟨ji9, hji9⟩ : ∃ j_ : Int, (wrap64 (x3_1 + 1)) = j_ := ⟨_, rfl⟩
                replace H : (if 0 ≤ (ji9) then ((strings_IndexByte.f (⟨#[110, 101, 115, 119]⟩ : ByteArray) (bt a0 (ji9))).bind fun t104 => (if t104 < 0 then (some false) else (impl_IsPlan.l0 k1 a0 (wrap64 (x3_1 + 2))))) else (none)) = some r := by first | (rw [hji9] at H; exact H) | (simp only [hji9] at H ⊢; exact H)
                (try rw [hji9] at c2b0)
                have hji9w : (IntKind.i64.wrap (x3_1 + 1)) = ji9 := (i64_w _).trans hji9
                by_cases c10 : 0 ≤ (ji9)
                · rw [if_pos c10] at H
                  have c10b0 : decide (0 ≤ (ji9)) = true := decide_eq_true c10
                  clear c10
                  replace H := Option.bind_eq_some_iff.mp H
                  obtain ⟨t104, A120, H⟩ := H
                  replace H : (if t104 < 0 then (some false) else (impl_IsPlan.l0 k1 a0 (wrap64 (x3_1 + 2)))) = some r := H
                  have A12 := Aside0.mk A120
                  clear A120
                  by_cases c13 : t104 < 0
                  · rw [if_pos c13] at H
                    have c13b0 : decide (t104 < 0) = true := decide_eq_true c13
                    clear c13
                    obtain rfl := Option.some.inj H
                    have p5 : 0 ≤ (x3_1 : Int) := of_decide_eq_true (by first | (with_reducible assumption) | assumption)
                    have q5 : x3_1 < (a0.size : Int) := of_decide_eq_true (by first | (with_reducible assumption) | assumption)
                    have hx5 := bt_at a0 x3_1
                    replace p5 := eq_true p5
                    replace q5 := eq_true q5
                    have p7 : 0 ≤ (x3_1 : Int) := of_decide_eq_true (by first | (with_reducible assumption) | assumption)
                    have q7 : x3_1 < (a0.size : Int) := of_decide_eq_true (by first | (with_reducible assumption) | assumption)
                    have hx7 := bt_at a0 x3_1
                    replace p7 := eq_true p7
                    replace q7 := eq_true q7
                    have p11 : 0 ≤ ((ji9) : Int) := of_decide_eq_true (by first | (with_reducible assumption) | assumption)
                    have q11 : (ji9) < (a0.size : Int) := of_decide_eq_true (by first | (with_reducible assumption) | assumption)
                    have hx11 := bt_at a0 (ji9)
                    replace p11 := eq_true p11
                    replace q11 := eq_true q11
                    go_wp2_with (first | (go_at_call 53; (with_reducible refine (strings_IndexByte.calls (⟨#[110, 101, 115, 119]⟩ : ByteArray) (bt a0 (ji9)) t104 _ A12.out).mono ?_); rintro e w' ⟨rfl, ⟨nd, rfl⟩⟩))
                    go_ret
                    exact ⟨by first | rfl | (simp; done) | (simp only [← hji9] <;> (first | rfl | simp)) | (simp [*]; done), by repeat (first | exact Drawn0.refl _ | apply Drawn0.step)⟩
                  · rw [if_neg c13] at H
                    have c13b0 : decide (t104 < 0) = false := decide_eq_false c13
                    clear c13
                    have H' := Aside0.mk H
                    clear H
                    have p5 : 0 ≤ (x3_1 : Int) := of_decide_eq_true (by first | (with_reducible assumption) | assumption)
                    have q5 : x3_1 < (a0.size : Int) := of_decide_eq_true (by first | (with_reducible assumption) | assumption)
                    have hx5 := bt_at a0 x3_1
                    replace p5 := eq_true p5
                    replace q5 := eq_true q5
                    have p7 : 0 ≤ (x3_1 : Int) := of_decide_eq_true (by first | (with_reducible assumption) | assumption)
                    have q7 : x3_1 < (a0.size : Int) := of_decide_eq_true (by first | (with_reducible assumption) | assumption)
                    have hx7 := bt_at a0 x3_1
                    replace p7 := eq_true p7
                    replace q7 := eq_true q7
                    have p11 : 0 ≤ ((ji9) : Int) := of_decide_eq_true (by first | (with_reducible assumption) | assumption)
                    have q11 : (ji9) < (a0.size : Int) := of_decide_eq_true (by first | (with_reducible assumption) | assumption)
                    have hx11 := bt_at a0 (ji9)
                    replace p11 := eq_true p11
                    replace q11 := eq_true q11
                    go_wp2_with (first | (go_at_call 53; (with_reducible refine (strings_IndexByte.calls (⟨#[110, 101, 115, 119]⟩ : ByteArray) (bt a0 (ji9)) t104 _ A12.out).mono ?_); rintro e w' ⟨rfl, ⟨nd, rfl⟩⟩))
                    go_roundg k1
                    case measure => have := HK1.out; omega
                    case rel => exact ⟨(wrap64 (x3_1 + 2)), (by first | rfl | (simp; done) | (simp [*]; done)), H', ⟨by have := HK1.out; omega⟩, by repeat (first | exact Drawn0.refl _ | apply Drawn0.step)⟩
                · rw [if_neg c10] at H
                  exact absurd H (by simp)
          · rw [if_neg c4] at H
            exact absurd H (by simp)
        · rw [if_neg c3] at H
          exact absurd H (by simp)
      · rw [if_neg c2] at H
        have c2b0 : decide ((wrap64 (x3_1 + 1)) < (a0.size : Int)) = false := decide_eq_false c2
        clear c2
        by_cases c14 : ((a0.size : Int) % 2) = 0
        · rw [if_pos c14] at H
          have c14b0 : (((a0.size : Int) % 2) == 0) = true := beq_iff_eq.mpr c14
          have c14b1 : (((a0.size : Int) % 2) != 0) = false := bne_eq_false_iff_eq.mpr c14
          clear c14
          obtain rfl := Option.some.inj H
          go_wp2
          go_ret
          exact ⟨by first | rfl | (simp; done) | (simp [*]; done), by repeat (first | exact Drawn0.refl _ | apply Drawn0.step)⟩
        · rw [if_neg c14] at H
          have c14b0 : (((a0.size : Int) % 2) == 0) = false := beq_eq_false_iff_ne.mpr c14
          have c14b1 : (((a0.size : Int) % 2) != 0) = true := bne_iff_ne.mpr c14
          obtain rfl := Option.some.inj H
          go_wp2
          go_ret
          exact ⟨by first | rfl | (simp; done) | (simp [*]; done), by repeat (first | exact Drawn0.refl _ | apply Drawn0.step)⟩

end Go.Proofs.Ythnheffndhbebaa.P

namespace Go.Proofs.Ythnheffndhbebaa
open Go.RowKit Go.Proofs.YthnheffndhbebaaW.PrintWords Go.Proofs.YthnheffndhbebaaW.PrintLast
set_option linter.unusedVariables false
set_option linter.unusedSimpArgs false

def dirB (c : UInt8) : Bool := c == 110 || c == 101 || c == 115 || c == 119
def dirIx (c : UInt8) : Nat := if c = 110 then 0 else if c = 101 then 1 else if c = 115 then 2 else 3
def dirOf (i : Nat) : UInt8 := if i % 4 = 0 then 110 else if i % 4 = 1 then 101 else if i % 4 = 2 then 115 else 119
def turnB (k : Nat) (c : UInt8) : UInt8 := dirOf (dirIx c + k)
theorem dirB_cases {c : UInt8} (h : dirB c = true) : c = 110 ∨ c = 101 ∨ c = 115 ∨ c = 119 := by
  simp only [dirB, Bool.or_eq_true, beq_iff_eq] at h
  rcases h with ((h | h) | h) | h
  · exact .inl h
  · exact .inr (.inl h)
  · exact .inr (.inr (.inl h))
  · exact .inr (.inr (.inr h))

def impl_turned.f (a0 : ByteArray) (a1 : Int) : Option ByteArray :=
  if 0 ≤ a1 ∧ a1 ≤ 3 ∧ a0.size ≤ 1000000 ∧ a0.data.toList.all dirB = true then some ⟨(a0.data.toList.map (turnB a1.toNat)).toArray⟩ else none

/-- The cells of the row behind k rounds. -/
def TurnRel (s : ByteArray) (q k : Nat) (cs : Array Value) : Prop :=
  s.size ≤ cs.size ∧ (∀ i, i < k → cs[i]? = some (.int .u8 (turnB q (s.data.toList.getD i 0)).toNat)) ∧ ∀ i, k ≤ i → i < s.size → cs[i]? = some (.int .u8 (s.data.toList.getD i 0).toNat)
theorem TurnRel.start (w : World) (e : TypeId) (s : ByteArray) (q : Nat) : TurnRel s q 0 (Lib.bytesCells w e s) := by
  have hl : (s.data.map fun b => Value.int .u8 (b.toNat : Int)).size = s.size := by rw [Array.size_map]; rfl
  refine ⟨by simp only [Lib.bytesCells, Array.size_append, hl]; omega, fun i hi => by omega, fun i _ hi => ?_⟩
  unfold Lib.bytesCells
  have hi' : i < s.data.size := hi
  rw [Array.getElem?_append_left (by simpa using hi')]
  simp [List.getD, Array.getElem?_eq_getElem hi']
theorem TurnRel.step {s : ByteArray} {q k : Nat} {cs : Array Value} (h : TurnRel s q k cs) (hk : k < s.size) : TurnRel s q (k + 1) (cs.setIfInBounds k (.int .u8 (turnB q (s.data.toList.getD k 0)).toNat)) := by
  obtain ⟨h1, h2, h3⟩ := h
  refine ⟨by simpa using h1, fun i hi => ?_, fun i hi hi2 => ?_⟩
  · by_cases e : i = k
    · subst e; rw [Array.getElem?_setIfInBounds_self_of_lt (by omega)]
    · rw [Array.getElem?_setIfInBounds_ne (by omega)]; exact h2 i (by omega)
  · rw [Array.getElem?_setIfInBounds_ne (by omega)]; exact h3 i (by omega) hi2

def turnNums (s : ByteArray) (q : Nat) : List Int := s.data.toList.map fun c => ((turnB q c).toNat : Int)
theorem turnNums_length (s : ByteArray) (q : Nat) : (turnNums s q).length = s.size := by rw [turnNums, List.length_map, data_length]
theorem turnNums_str (s : ByteArray) (q : Nat) : strOfNums (turnNums s q) = ⟨(s.data.toList.map (turnB q)).toArray⟩ := by
  unfold strOfNums turnNums
  simp
theorem TurnRel.ended {s : ByteArray} {q : Nat} {cs : Array Value} (h : TurnRel s q s.size cs) (i : Nat) (hi : i < s.size) : cs[i]? = some (.int .u8 ((turnNums s q).getD i 0)) := by
  rw [h.2.1 i hi]
  have hl : i < s.data.toList.length := by rw [data_length]; exact hi
  simp [turnNums, List.getD_eq_getElem?_getD, List.getElem?_eq_getElem hl]
theorem ix_n (w : World) : Calls Try.prog 53 #[.string ⟨#[110, 101, 115, 119]⟩, .int .u8 110] w fun e w' => e = .returned (.int .i64 0) ∧ w = w' := (Try.strings_IndexByte _ _ w).mono fun e w' ⟨h, hw⟩ => ⟨h, hw.symm⟩
theorem ix_e (w : World) : Calls Try.prog 53 #[.string ⟨#[110, 101, 115, 119]⟩, .int .u8 101] w fun e w' => e = .returned (.int .i64 1) ∧ w = w' := (Try.strings_IndexByte _ _ w).mono fun e w' ⟨h, hw⟩ => ⟨h, hw.symm⟩
theorem ix_s (w : World) : Calls Try.prog 53 #[.string ⟨#[110, 101, 115, 119]⟩, .int .u8 115] w fun e w' => e = .returned (.int .i64 2) ∧ w = w' := (Try.strings_IndexByte _ _ w).mono fun e w' ⟨h, hw⟩ => ⟨h, hw.symm⟩
theorem ix_w (w : World) : Calls Try.prog 53 #[.string ⟨#[110, 101, 115, 119]⟩, .int .u8 119] w fun e w' => e = .returned (.int .i64 3) ∧ w = w' := (Try.strings_IndexByte _ _ w).mono fun e w' ⟨h, hw⟩ => ⟨h, hw.symm⟩

def TurnLoop (w : World) (s : ByteArray) (q : Nat) (B : Nat) (e : TypeId) (i : Value) (wr : World) : Prop :=
  ∃ (k : Nat) (cs : Array Value) (fz : Nat × Nat), i = .int .i64 k ∧ k ≤ s.size ∧ Blk wr B e cs fz ∧ s.size ≤ fz.1 ∧ TurnRel s q k cs ∧ Below w.heap.size w wr

theorem turned_0 (s : ByteArray) (hs : s.size ≤ 1000000) (hd : s.data.toList.all dirB = true) (w : World) :
    Calls Try.prog 55 #[.string s, .int .i64 0] w fun e w' => e = .returned (.string ⟨(s.data.toList.map (turnB 0)).toArray⟩) ∧ Below w.heap.size w w' := by
  have kb := fun W => print_bytes (P := Try.prog) 9 101 5 Try.underlying9 Try.underlying101 Try.underlying5 s W
  have hb0 := Blk.bytes w 5 s
  have hr0 := TurnRel.start w 5 s 0
  have hw0 : Below w.heap.size w (Lib.bytesWorld w 5 s) := bytes_below (Below.refl _ _) (Nat.le_refl _) _ _
  have HS := Lib.hid hb0
  have HR := Lib.hid hr0
  have HW := Lib.hid hw0
  have HD := Lib.hid hd
  clear hb0 hr0 hw0 hd
  go_enter Try.func55, Try.ntmps55
  go_wp2
  go_loopw [12] (fun i wr => TurnLoop w s 0 w.heap.size 5 i wr) (fun i _ => s.size - (intOf i).toNat)
  case atStart => exact ⟨0, _, _, rfl, Nat.zero_le _, HS.out, by have := HR.out.1; exact this, HR.out, HW.out⟩
  case round =>
    obtain ⟨k, cs, fz, rfl, hk, hblk, hfz, hrel, hbel⟩ := hrel
    have HB := Lib.hid hblk
    have HRel := Lib.hid hrel
    have HBel := Lib.hid hbel
    clear hblk hrel hbel
    rename World => wr
    by_cases hlt : k < s.size
    · have hcell := (HB.out.cell k).trans (HRel.out.2.2 k (Nat.le_refl _) hlt)
      have hfr := HB.out.frozen k (.inl (by omega))
      have hdir : dirB (s.data.toList.getD k 0) = true := by
        have hl : k < s.data.toList.length := by rw [data_length]; exact hlt
        rw [List.getD_eq_getElem?_getD, List.getElem?_eq_getElem hl]
        exact List.all_eq_true.1 HD.out _ (List.getElem_mem hl)
      have HStep := Lib.hid (HRel.out.step hlt)
      have HSet := Lib.hid (HB.out.set_ k (.int .u8 (turnB 0 (s.data.toList.getD k 0)).toNat))
      have hB := HB.out.lt
      generalize s.data.toList.getD k 0 = c at hcell hdir HStep HSet
      clear HD HS HR HW
      have HBS := Lib.hid (HBel.out.setCell (p := ⟨w.heap.size, k, none⟩) (Nat.le_refl _) (.int .u8 (turnB 0 c).toNat))
      rcases dirB_cases hdir with rfl | rfl | rfl | rfl <;> clear hdir
      · have hcell' : wr.cell? ⟨w.heap.size, k, none⟩ = some (.int .u8 110) := hcell
        clear hcell
        go_wp2_with (first | (go_at_call 53; refine (ix_n _).mono ?_; rintro e w' ⟨rfl, rfl⟩))
        go_roundw
        case rel => exact ⟨k + 1, _, _, by go_num, by omega, HSet.out, hfz, HStep.out, HBS.out⟩
        case measure => simp [intOf]; omega
      · have hcell' : wr.cell? ⟨w.heap.size, k, none⟩ = some (.int .u8 101) := hcell
        clear hcell
        go_wp2_with (first | (go_at_call 53; refine (ix_e _).mono ?_; rintro e w' ⟨rfl, rfl⟩))
        go_roundw
        case rel => exact ⟨k + 1, _, _, by go_num, by omega, HSet.out, hfz, HStep.out, HBS.out⟩
        case measure => simp [intOf]; omega
      · have hcell' : wr.cell? ⟨w.heap.size, k, none⟩ = some (.int .u8 115) := hcell
        clear hcell
        go_wp2_with (first | (go_at_call 53; refine (ix_s _).mono ?_; rintro e w' ⟨rfl, rfl⟩))
        go_roundw
        case rel => exact ⟨k + 1, _, _, by go_num, by omega, HSet.out, hfz, HStep.out, HBS.out⟩
        case measure => simp [intOf]; omega
      · have hcell' : wr.cell? ⟨w.heap.size, k, none⟩ = some (.int .u8 119) := hcell
        clear hcell
        go_wp2_with (first | (go_at_call 53; refine (ix_w _).mono ?_; rintro e w' ⟨rfl, rfl⟩))
        go_roundw
        case rel => exact ⟨k + 1, _, _, by go_num, by omega, HSet.out, hfz, HStep.out, HBS.out⟩
        case measure => simp [intOf]; omega
    · obtain rfl : k = s.size := by omega
      have hz := HRel.out.ended
      have hcv := run_convert_bytes_arg (P := Try.prog) wr 101 5 Try.underlying101 Try.underlying5 w.heap.size 0 s.size (grownCap w s.size 0 5) (turnNums s 0) (turnNums_length s 0) (fun i hi => by rw [Nat.zero_add, HB.out.cell i, hz i hi]) 9 Try.underlying9
      clear hz
      go_wp2
      go_ret
      exact ⟨ret_str (turnNums_str s 0), HBel.out⟩
theorem turned_1 (s : ByteArray) (hs : s.size ≤ 1000000) (hd : s.data.toList.all dirB = true) (w : World) :
    Calls Try.prog 55 #[.string s, .int .i64 1] w fun e w' => e = .returned (.string ⟨(s.data.toList.map (turnB 1)).toArray⟩) ∧ Below w.heap.size w w' := by
  have kb := fun W => print_bytes (P := Try.prog) 9 101 5 Try.underlying9 Try.underlying101 Try.underlying5 s W
  have hb0 := Blk.bytes w 5 s
  have hr0 := TurnRel.start w 5 s 1
  have hw0 : Below w.heap.size w (Lib.bytesWorld w 5 s) := bytes_below (Below.refl _ _) (Nat.le_refl _) _ _
  have HS := Lib.hid hb0
  have HR := Lib.hid hr0
  have HW := Lib.hid hw0
  have HD := Lib.hid hd
  clear hb0 hr0 hw0 hd
  go_enter Try.func55, Try.ntmps55
  go_wp2
  go_loopw [12] (fun i wr => TurnLoop w s 1 w.heap.size 5 i wr) (fun i _ => s.size - (intOf i).toNat)
  case atStart => exact ⟨0, _, _, rfl, Nat.zero_le _, HS.out, by have := HR.out.1; exact this, HR.out, HW.out⟩
  case round =>
    obtain ⟨k, cs, fz, rfl, hk, hblk, hfz, hrel, hbel⟩ := hrel
    have HB := Lib.hid hblk
    have HRel := Lib.hid hrel
    have HBel := Lib.hid hbel
    clear hblk hrel hbel
    rename World => wr
    by_cases hlt : k < s.size
    · have hcell := (HB.out.cell k).trans (HRel.out.2.2 k (Nat.le_refl _) hlt)
      have hfr := HB.out.frozen k (.inl (by omega))
      have hdir : dirB (s.data.toList.getD k 0) = true := by
        have hl : k < s.data.toList.length := by rw [data_length]; exact hlt
        rw [List.getD_eq_getElem?_getD, List.getElem?_eq_getElem hl]
        exact List.all_eq_true.1 HD.out _ (List.getElem_mem hl)
      have HStep := Lib.hid (HRel.out.step hlt)
      have HSet := Lib.hid (HB.out.set_ k (.int .u8 (turnB 1 (s.data.toList.getD k 0)).toNat))
      have hB := HB.out.lt
      generalize s.data.toList.getD k 0 = c at hcell hdir HStep HSet
      clear HD HS HR HW
      have HBS := Lib.hid (HBel.out.setCell (p := ⟨w.heap.size, k, none⟩) (Nat.le_refl _) (.int .u8 (turnB 1 c).toNat))
      rcases dirB_cases hdir with rfl | rfl | rfl | rfl <;> clear hdir
      · have hcell' : wr.cell? ⟨w.heap.size, k, none⟩ = some (.int .u8 110) := hcell
        clear hcell
        go_wp2_with (first | (go_at_call 53; refine (ix_n _).mono ?_; rintro e w' ⟨rfl, rfl⟩))
        go_roundw
        case rel => exact ⟨k + 1, _, _, by go_num, by omega, HSet.out, hfz, HStep.out, HBS.out⟩
        case measure => simp [intOf]; omega
      · have hcell' : wr.cell? ⟨w.heap.size, k, none⟩ = some (.int .u8 101) := hcell
        clear hcell
        go_wp2_with (first | (go_at_call 53; refine (ix_e _).mono ?_; rintro e w' ⟨rfl, rfl⟩))
        go_roundw
        case rel => exact ⟨k + 1, _, _, by go_num, by omega, HSet.out, hfz, HStep.out, HBS.out⟩
        case measure => simp [intOf]; omega
      · have hcell' : wr.cell? ⟨w.heap.size, k, none⟩ = some (.int .u8 115) := hcell
        clear hcell
        go_wp2_with (first | (go_at_call 53; refine (ix_s _).mono ?_; rintro e w' ⟨rfl, rfl⟩))
        go_roundw
        case rel => exact ⟨k + 1, _, _, by go_num, by omega, HSet.out, hfz, HStep.out, HBS.out⟩
        case measure => simp [intOf]; omega
      · have hcell' : wr.cell? ⟨w.heap.size, k, none⟩ = some (.int .u8 119) := hcell
        clear hcell
        go_wp2_with (first | (go_at_call 53; refine (ix_w _).mono ?_; rintro e w' ⟨rfl, rfl⟩))
        go_roundw
        case rel => exact ⟨k + 1, _, _, by go_num, by omega, HSet.out, hfz, HStep.out, HBS.out⟩
        case measure => simp [intOf]; omega
    · obtain rfl : k = s.size := by omega
      have hz := HRel.out.ended
      have hcv := run_convert_bytes_arg (P := Try.prog) wr 101 5 Try.underlying101 Try.underlying5 w.heap.size 0 s.size (grownCap w s.size 0 5) (turnNums s 1) (turnNums_length s 1) (fun i hi => by rw [Nat.zero_add, HB.out.cell i, hz i hi]) 9 Try.underlying9
      clear hz
      go_wp2
      go_ret
      exact ⟨ret_str (turnNums_str s 1), HBel.out⟩
theorem turned_2 (s : ByteArray) (hs : s.size ≤ 1000000) (hd : s.data.toList.all dirB = true) (w : World) :
    Calls Try.prog 55 #[.string s, .int .i64 2] w fun e w' => e = .returned (.string ⟨(s.data.toList.map (turnB 2)).toArray⟩) ∧ Below w.heap.size w w' := by
  have kb := fun W => print_bytes (P := Try.prog) 9 101 5 Try.underlying9 Try.underlying101 Try.underlying5 s W
  have hb0 := Blk.bytes w 5 s
  have hr0 := TurnRel.start w 5 s 2
  have hw0 : Below w.heap.size w (Lib.bytesWorld w 5 s) := bytes_below (Below.refl _ _) (Nat.le_refl _) _ _
  have HS := Lib.hid hb0
  have HR := Lib.hid hr0
  have HW := Lib.hid hw0
  have HD := Lib.hid hd
  clear hb0 hr0 hw0 hd
  go_enter Try.func55, Try.ntmps55
  go_wp2
  go_loopw [12] (fun i wr => TurnLoop w s 2 w.heap.size 5 i wr) (fun i _ => s.size - (intOf i).toNat)
  case atStart => exact ⟨0, _, _, rfl, Nat.zero_le _, HS.out, by have := HR.out.1; exact this, HR.out, HW.out⟩
  case round =>
    obtain ⟨k, cs, fz, rfl, hk, hblk, hfz, hrel, hbel⟩ := hrel
    have HB := Lib.hid hblk
    have HRel := Lib.hid hrel
    have HBel := Lib.hid hbel
    clear hblk hrel hbel
    rename World => wr
    by_cases hlt : k < s.size
    · have hcell := (HB.out.cell k).trans (HRel.out.2.2 k (Nat.le_refl _) hlt)
      have hfr := HB.out.frozen k (.inl (by omega))
      have hdir : dirB (s.data.toList.getD k 0) = true := by
        have hl : k < s.data.toList.length := by rw [data_length]; exact hlt
        rw [List.getD_eq_getElem?_getD, List.getElem?_eq_getElem hl]
        exact List.all_eq_true.1 HD.out _ (List.getElem_mem hl)
      have HStep := Lib.hid (HRel.out.step hlt)
      have HSet := Lib.hid (HB.out.set_ k (.int .u8 (turnB 2 (s.data.toList.getD k 0)).toNat))
      have hB := HB.out.lt
      generalize s.data.toList.getD k 0 = c at hcell hdir HStep HSet
      clear HD HS HR HW
      have HBS := Lib.hid (HBel.out.setCell (p := ⟨w.heap.size, k, none⟩) (Nat.le_refl _) (.int .u8 (turnB 2 c).toNat))
      rcases dirB_cases hdir with rfl | rfl | rfl | rfl <;> clear hdir
      · have hcell' : wr.cell? ⟨w.heap.size, k, none⟩ = some (.int .u8 110) := hcell
        clear hcell
        go_wp2_with (first | (go_at_call 53; refine (ix_n _).mono ?_; rintro e w' ⟨rfl, rfl⟩))
        go_roundw
        case rel => exact ⟨k + 1, _, _, by go_num, by omega, HSet.out, hfz, HStep.out, HBS.out⟩
        case measure => simp [intOf]; omega
      · have hcell' : wr.cell? ⟨w.heap.size, k, none⟩ = some (.int .u8 101) := hcell
        clear hcell
        go_wp2_with (first | (go_at_call 53; refine (ix_e _).mono ?_; rintro e w' ⟨rfl, rfl⟩))
        go_roundw
        case rel => exact ⟨k + 1, _, _, by go_num, by omega, HSet.out, hfz, HStep.out, HBS.out⟩
        case measure => simp [intOf]; omega
      · have hcell' : wr.cell? ⟨w.heap.size, k, none⟩ = some (.int .u8 115) := hcell
        clear hcell
        go_wp2_with (first | (go_at_call 53; refine (ix_s _).mono ?_; rintro e w' ⟨rfl, rfl⟩))
        go_roundw
        case rel => exact ⟨k + 1, _, _, by go_num, by omega, HSet.out, hfz, HStep.out, HBS.out⟩
        case measure => simp [intOf]; omega
      · have hcell' : wr.cell? ⟨w.heap.size, k, none⟩ = some (.int .u8 119) := hcell
        clear hcell
        go_wp2_with (first | (go_at_call 53; refine (ix_w _).mono ?_; rintro e w' ⟨rfl, rfl⟩))
        go_roundw
        case rel => exact ⟨k + 1, _, _, by go_num, by omega, HSet.out, hfz, HStep.out, HBS.out⟩
        case measure => simp [intOf]; omega
    · obtain rfl : k = s.size := by omega
      have hz := HRel.out.ended
      have hcv := run_convert_bytes_arg (P := Try.prog) wr 101 5 Try.underlying101 Try.underlying5 w.heap.size 0 s.size (grownCap w s.size 0 5) (turnNums s 2) (turnNums_length s 2) (fun i hi => by rw [Nat.zero_add, HB.out.cell i, hz i hi]) 9 Try.underlying9
      clear hz
      go_wp2
      go_ret
      exact ⟨ret_str (turnNums_str s 2), HBel.out⟩
theorem turned_3 (s : ByteArray) (hs : s.size ≤ 1000000) (hd : s.data.toList.all dirB = true) (w : World) :
    Calls Try.prog 55 #[.string s, .int .i64 3] w fun e w' => e = .returned (.string ⟨(s.data.toList.map (turnB 3)).toArray⟩) ∧ Below w.heap.size w w' := by
  have kb := fun W => print_bytes (P := Try.prog) 9 101 5 Try.underlying9 Try.underlying101 Try.underlying5 s W
  have hb0 := Blk.bytes w 5 s
  have hr0 := TurnRel.start w 5 s 3
  have hw0 : Below w.heap.size w (Lib.bytesWorld w 5 s) := bytes_below (Below.refl _ _) (Nat.le_refl _) _ _
  have HS := Lib.hid hb0
  have HR := Lib.hid hr0
  have HW := Lib.hid hw0
  have HD := Lib.hid hd
  clear hb0 hr0 hw0 hd
  go_enter Try.func55, Try.ntmps55
  go_wp2
  go_loopw [12] (fun i wr => TurnLoop w s 3 w.heap.size 5 i wr) (fun i _ => s.size - (intOf i).toNat)
  case atStart => exact ⟨0, _, _, rfl, Nat.zero_le _, HS.out, by have := HR.out.1; exact this, HR.out, HW.out⟩
  case round =>
    obtain ⟨k, cs, fz, rfl, hk, hblk, hfz, hrel, hbel⟩ := hrel
    have HB := Lib.hid hblk
    have HRel := Lib.hid hrel
    have HBel := Lib.hid hbel
    clear hblk hrel hbel
    rename World => wr
    by_cases hlt : k < s.size
    · have hcell := (HB.out.cell k).trans (HRel.out.2.2 k (Nat.le_refl _) hlt)
      have hfr := HB.out.frozen k (.inl (by omega))
      have hdir : dirB (s.data.toList.getD k 0) = true := by
        have hl : k < s.data.toList.length := by rw [data_length]; exact hlt
        rw [List.getD_eq_getElem?_getD, List.getElem?_eq_getElem hl]
        exact List.all_eq_true.1 HD.out _ (List.getElem_mem hl)
      have HStep := Lib.hid (HRel.out.step hlt)
      have HSet := Lib.hid (HB.out.set_ k (.int .u8 (turnB 3 (s.data.toList.getD k 0)).toNat))
      have hB := HB.out.lt
      generalize s.data.toList.getD k 0 = c at hcell hdir HStep HSet
      clear HD HS HR HW
      have HBS := Lib.hid (HBel.out.setCell (p := ⟨w.heap.size, k, none⟩) (Nat.le_refl _) (.int .u8 (turnB 3 c).toNat))
      rcases dirB_cases hdir with rfl | rfl | rfl | rfl <;> clear hdir
      · have hcell' : wr.cell? ⟨w.heap.size, k, none⟩ = some (.int .u8 110) := hcell
        clear hcell
        go_wp2_with (first | (go_at_call 53; refine (ix_n _).mono ?_; rintro e w' ⟨rfl, rfl⟩))
        go_roundw
        case rel => exact ⟨k + 1, _, _, by go_num, by omega, HSet.out, hfz, HStep.out, HBS.out⟩
        case measure => simp [intOf]; omega
      · have hcell' : wr.cell? ⟨w.heap.size, k, none⟩ = some (.int .u8 101) := hcell
        clear hcell
        go_wp2_with (first | (go_at_call 53; refine (ix_e _).mono ?_; rintro e w' ⟨rfl, rfl⟩))
        go_roundw
        case rel => exact ⟨k + 1, _, _, by go_num, by omega, HSet.out, hfz, HStep.out, HBS.out⟩
        case measure => simp [intOf]; omega
      · have hcell' : wr.cell? ⟨w.heap.size, k, none⟩ = some (.int .u8 115) := hcell
        clear hcell
        go_wp2_with (first | (go_at_call 53; refine (ix_s _).mono ?_; rintro e w' ⟨rfl, rfl⟩))
        go_roundw
        case rel => exact ⟨k + 1, _, _, by go_num, by omega, HSet.out, hfz, HStep.out, HBS.out⟩
        case measure => simp [intOf]; omega
      · have hcell' : wr.cell? ⟨w.heap.size, k, none⟩ = some (.int .u8 119) := hcell
        clear hcell
        go_wp2_with (first | (go_at_call 53; refine (ix_w _).mono ?_; rintro e w' ⟨rfl, rfl⟩))
        go_roundw
        case rel => exact ⟨k + 1, _, _, by go_num, by omega, HSet.out, hfz, HStep.out, HBS.out⟩
        case measure => simp [intOf]; omega
    · obtain rfl : k = s.size := by omega
      have hz := HRel.out.ended
      have hcv := run_convert_bytes_arg (P := Try.prog) wr 101 5 Try.underlying101 Try.underlying5 w.heap.size 0 s.size (grownCap w s.size 0 5) (turnNums s 3) (turnNums_length s 3) (fun i hi => by rw [Nat.zero_add, HB.out.cell i, hz i hi]) 9 Try.underlying9
      clear hz
      go_wp2
      go_ret
      exact ⟨ret_str (turnNums_str s 3), HBel.out⟩
theorem impl_turned.calls (a0 : ByteArray) (a1 : Int) (r : ByteArray) (w : World) (h : impl_turned.f a0 a1 = some r) :
    Calls Try.prog 55 #[.string a0, .int .i64 a1] w fun e w' => e = .returned (.string r) ∧ Below w.heap.size w w' := by
  unfold impl_turned.f at h
  by_cases hc : 0 ≤ a1 ∧ a1 ≤ 3 ∧ a0.size ≤ 1000000 ∧ a0.data.toList.all dirB = true
  · rw [if_pos hc] at h
    obtain rfl := Option.some.inj h
    obtain ⟨h0, h3, hs, hd⟩ := hc
    obtain rfl | rfl | rfl | rfl : a1 = 0 ∨ a1 = 1 ∨ a1 = 2 ∨ a1 = 3 := by omega
    · exact turned_0 a0 hs hd w
    · exact turned_1 a0 hs hd w
    · exact turned_2 a0 hs hd w
    · exact turned_3 a0 hs hd w
  · rw [if_neg hc] at h
    cases h
end Go.Proofs.Ythnheffndhbebaa

namespace Go.Proofs.Ythnheffndhbebaa.P
open Go.RowKit Go.Proofs.YthnheffndhbebaaW.PrintWords Go.Proofs.YthnheffndhbebaaW.PrintLast Go.Proofs.YthnheffndhbebaaW.PrintMore
attribute [local go_sem] max2_int min2_int max_two min_two max_three min_three max_four min_four   -- for this text's walks alone
set_option linter.unusedVariables false
set_option linter.unusedSimpArgs false

/-! ### impl_BackPlan: function 17 -/
def impl_BackPlan.l0 : Nat → ByteArray → ByteArray → Int → Option (ByteArray × Bool)
  | 0, _, _, _ => none
  | k + 1, x0, x4, x5 => if x5 < (x0.size : Int) then (if 0 ≤ x5 then (if x5 ≤ (wrap64 (x5 + 1)) then (if (wrap64 (x5 + 1)) ≤ (x0.size : Int) then (if 0 ≤ (wrap64 (x5 + 1)) then (if (wrap64 (x5 + 1)) ≤ (wrap64 (x5 + 2)) then (if (wrap64 (x5 + 2)) ≤ (x0.size : Int) then ((impl_turned.f (x0.extract ((wrap64 (x5 + 1)) : Int).toNat ((wrap64 (x5 + 2)) : Int).toNat) 2).bind fun t112 => (if (x0.extract (x5 : Int).toNat ((wrap64 (x5 + 1)) : Int).toNat).size + t112.size ≤ 9223372036854775807 then (if ((x0.extract (x5 : Int).toNat ((wrap64 (x5 + 1)) : Int).toNat) ++ t112).size + x4.size ≤ 9223372036854775807 then (impl_BackPlan.l0 k x0 (((x0.extract (x5 : Int).toNat ((wrap64 (x5 + 1)) : Int).toNat) ++ t112) ++ x4) (wrap64 (x5 + 2))) else (none)) else (none))) else (none)) else (none)) else (none)) else (none)) else (none)) else (none)) else (some (x4, true))
def impl_BackPlan.f (k : Nat) (a0 : ByteArray) : Option (ByteArray × Bool) := (impl_IsPlan.f k a0).bind fun t111 => (if t111 = true then (impl_BackPlan.l0 k a0 (⟨#[]⟩ : ByteArray) 0) else (some ((⟨#[]⟩ : ByteArray), false)))
theorem impl_BackPlan.mono_l : ∀ k, (∀ y0 y1 y2, LeO (impl_BackPlan.l0 k y0 y1 y2) (impl_BackPlan.l0 (k + 1) y0 y1 y2))
  | 0 => fun _ _ _ r h => by simp [impl_BackPlan.l0] at h
  | k + 1 => by
    have ih0 := impl_BackPlan.mono_l k
    · intro y0 y1 y2
      unfold impl_BackPlan.l0
      repeat' first
      | (with_reducible exact ih0 _ _ _)
      | (with_reducible exact impl_IsPlan.mono _ _)
      | (with_reducible exact LeO.refl _)
      | (with_reducible exact LeO.none _)
      | (with_reducible refine LeO.ite ?_ ?_)
      | (with_reducible refine LeO.bind ?_ (fun _ => ?_))
      | exact ih0 _ _ _
      | exact impl_IsPlan.mono _ _
      | exact LeO.none _
      | refine LeO.ite ?_ ?_
      | refine LeO.bind ?_ (fun _ => ?_)
theorem impl_BackPlan.mono : ∀ a0 k, LeO (impl_BackPlan.f k a0) (impl_BackPlan.f (k + 1) a0) := by
  intro a0 k
  have ih0 := impl_BackPlan.mono_l k
  unfold impl_BackPlan.f
  repeat' first
      | (with_reducible exact ih0 _ _ _)
      | (with_reducible exact impl_IsPlan.mono _ _)
      | (with_reducible exact LeO.refl _)
      | (with_reducible exact LeO.none _)
      | (with_reducible refine LeO.ite ?_ ?_)
      | (with_reducible refine LeO.bind ?_ (fun _ => ?_))
      | exact ih0 _ _ _
      | exact impl_IsPlan.mono _ _
      | exact LeO.none _
      | refine LeO.ite ?_ ?_
      | refine LeO.bind ?_ (fun _ => ?_)
def impl_BackPlan.T7 : Bool × List (List Nat × List Nat) := (true, [([], []), ([], []), ([], []), ([2], [2]), ([0, 1, 3], [0, 1, 3]), ([], []), ([], []), ([6], [6]), ([], []), ([8], [8]), ([5, 7, 9], [5, 7, 9]), ([10], [10]), ([4, 11], [4, 11]), ([], []), ([12, 13], [12, 13]), ([14, 11, 0, 1, 2, 3, 4, 5, 6, 7, 8, 9, 10, 11, 12, 13, 14], [13, 14])])
def impl_BackPlan.B7 : List Nat := [0, 0, 0, 4, 15, 0, 0, 64, 0, 256, 992, 2016, 4095, 0, 16383, 32767]
theorem impl_BackPlan.tab7 : rtab .any (opsOf Try.f17 7) = impl_BackPlan.T7 := by kernel_rfl
theorem impl_BackPlan.bits7 : waitsOk impl_BackPlan.T7.2 impl_BackPlan.B7 = true := by kernel_rfl
set_option maxHeartbeats 8000000 in
set_option maxRecDepth 100000 in
theorem impl_BackPlan.calls (k : Nat) (a0 : ByteArray) (r1 : ByteArray) (r2 : Bool) (w : World) (h : impl_BackPlan.f k a0 = some (r1, r2)) :
    Calls Try.prog 17 #[.string a0] w fun e w' => e = .returned (.tuple #[.string r1, .bool r2]) ∧ Below w.heap.size w w' := by
  have HB := Aside0.mk (Below.refl w.heap.size w)
  have H : ((impl_IsPlan.f k a0).bind fun t111 => (if t111 = true then (impl_BackPlan.l0 k a0 (⟨#[]⟩ : ByteArray) 0) else (some ((⟨#[]⟩ : ByteArray), false)))) = some (r1, r2) := h
  clear h
  replace H := Option.bind_eq_some_iff.mp H
  obtain ⟨t111, A20, H⟩ := H
  replace H : (if t111 = true then (impl_BackPlan.l0 k a0 (⟨#[]⟩ : ByteArray) 0) else (some ((⟨#[]⟩ : ByteArray), false))) = some (r1, r2) := H
  have A2 := Aside0.mk A20
  clear A20
  by_cases c3 : t111 = true
  · subst c3
    have H1 : (impl_BackPlan.l0 k a0 (⟨#[]⟩ : ByteArray) 0) = some (r1, r2) := by rw [if_pos rfl] at H; exact H
    clear H
    have H := H1
    clear H1
    have H' := Aside0.mk H
    clear H
    go_enter Try.func17, Try.ntmps17
    go_wp2_with (first | ((with_reducible refine gate_callee (f := 15) rfl ?_); refine goesL_ (some 7) rfl rfl Try.func15 (by kernel_rfl) rfl #[.string a0] rfl (by (try simp only [List.map_toArray, List.map_cons, List.map_nil]); first | done | rfl | (simp only [List.length_drop, List.length_take]; rfl)) ?_; (with_reducible refine (impl_IsPlan.calls k a0 true _ A2.out).mono ?_); rintro e w' ⟨rfl, ⟨nd, rfl⟩⟩; refine ⟨_, rfl, ?_⟩))
    go_loopg [4, 5] k (fun kq v4 v5 w' => ∃ (x4_1 : ByteArray) (x5_1 : Int), v4 = .string x4_1 ∧ v5 = .int .i64 x5_1 ∧ Aside0 (impl_BackPlan.l0 kq a0 x4_1 x5_1 = some (r1, r2)) ∧ Aside0 (kq ≤ k) ∧ Aside0 (Below w.heap.size w w'))
    case atStart => exact ⟨((⟨#[]⟩ : ByteArray)), (0), (by first | rfl | (simp; done) | (simp [*]; done)), (by first | rfl | (simp; done) | (simp [*]; done)), H', ⟨Nat.le_refl _⟩, ⟨by repeat (first | (with_reducible first | exact HB.out | apply below_alloc | apply pw_below_drewN | apply below_drew1) | exact HB.out)⟩⟩
    case round =>
      clear H'
      try clear c1
      try clear p2
      try clear c3
      obtain ⟨x4_1, x5_1, rfl, rfl, HA, HK1, HB⟩ := hrel
      cases gk with
      | zero => exact absurd HA.out (by simp [impl_BackPlan.l0])
      | succ k1 =>
        have H := HA.out
        clear HA
        simp only [impl_BackPlan.l0] at H
        by_cases c4 : x5_1 < (a0.size : Int)
        · rw [if_pos c4] at H
          have c4b0 : decide (x5_1 < (a0.size : Int)) = true := decide_eq_true c4
          clear c4
          by_cases c5 : 0 ≤ x5_1
          · rw [if_pos c5] at H
            have c5b0 := eq_true c5
            have c5b1 : decide (0 ≤ x5_1) = true := decide_eq_true c5
            clear c5
            by_cases c6 : x5_1 ≤ (wrap64 (x5_1 + 1))
            · rw [if_pos c6] at H
              have c6b0 := eq_true c6
              have c6b1 : decide (x5_1 ≤ (wrap64 (x5_1 + 1))) = true := decide_eq_true c6
              by_cases c7 : (wrap64 (x5_1 + 1)) ≤ (a0.size : Int)
              · rw [if_pos c7] at H
                have c7b0 := eq_true c7
                have c7b1 : decide ((wrap64 (x5_1 + 1)) ≤ (a0.size : Int)) = true := decide_eq_true c7
                obtain ⟨ji8, hji8⟩ : ∃ j_ : Int, (wrap64 (x5_1 + 1)) = j_ := ⟨_, rfl⟩
                replace H : (if 0 ≤ (ji8) then (if (ji8) ≤ (wrap64 (x5_1 + 2)) then (if (wrap64 (x5_1 + 2)) ≤ (a0.size : Int) then ((impl_turned.f (a0.extract ((ji8) : Int).toNat ((wrap64 (x5_1 + 2)) : Int).toNat) 2).bind fun t112 => (if (a0.extract (x5_1 : Int).toNat ((ji8) : Int).toNat).size + t112.size ≤ 9223372036854775807 then (if ((a0.extract (x5_1 : Int).toNat ((ji8) : Int).toNat) ++ t112).size + x4_1.size ≤ 9223372036854775807 then (impl_BackPlan.l0 k1 a0 (((a0.extract (x5_1 : Int).toNat ((ji8) : Int).toNat) ++ t112) ++ x4_1) (wrap64 (x5_1 + 2))) else (none)) else (none))) else (none)) else (none)) else (none)) = some (r1, r2) := by first | (rw [hji8] at H; exact H) | (simp only [hji8] at H ⊢; exact H)
                (try rw [hji8] at c6b0)
                (try rw [hji8] at c6b1)
                (try rw [hji8] at c6)
                (try rw [hji8] at c7b0)
                (try rw [hji8] at c7b1)
                (try rw [hji8] at c7)
                have hji8w : (IntKind.i64.wrap (x5_1 + 1)) = ji8 := (i64_w _).trans hji8
                by_cases c9 : 0 ≤ (ji8)
                · rw [if_pos c9] at H
                  have c9b0 := eq_true c9
                  have c9b1 : decide (0 ≤ (ji8)) = true := decide_eq_true c9
                  clear c9
                  by_cases c10 : (ji8) ≤ (wrap64 (x5_1 + 2))
                  · rw [if_pos c10] at H
                    have c10b0 := eq_true c10
                    have c10b1 : decide ((ji8) ≤ (wrap64 (x5_1 + 2))) = true := decide_eq_true c10
                    by_cases c11 : (wrap64 (x5_1 + 2)) ≤ (a0.size : Int)
                    · rw [if_pos c11] at H
                      have c11b0 := eq_true c11
                      have c11b1 : decide ((wrap64 (x5_1 + 2)) ≤ (a0.size : Int)) = true := decide_eq_true c11
                      replace H := Option.bind_eq_some_iff.mp H
                      obtain ⟨t112, A120, H⟩ := H
                      replace H : (if (a0.extract (x5_1 : Int).toNat ((ji8) : Int).toNat).size + t112.size ≤ 9223372036854775807 then (if ((a0.extract (x5_1 : Int).toNat ((ji8) : Int).toNat) ++ t112).size + x4_1.size ≤ 9223372036854775807 then (impl_BackPlan.l0 k1 a0 (((a0.extract (x5_1 : Int).toNat ((ji8) : Int).toNat) ++ t112) ++ x4_1) (wrap64 (x5_1 + 2))) else (none)) else (none)) = some (r1, r2) := H
                      have A12 := Aside0.mk A120
                      clear A120
                      by_cases c13 : (a0.extract (x5_1 : Int).toNat ((ji8) : Int).toNat).size + t112.size ≤ 9223372036854775807
                      · rw [if_pos c13] at H
                        have c13b0 := eq_true c13
                        have c13b1 : decide ((a0.extract (x5_1 : Int).toNat ((ji8) : Int).toNat).size + t112.size ≤ 9223372036854775807) = true := decide_eq_true c13
                        try have c13b2 : (9223372036854775807 < (a0.extract (x5_1 : Int).toNat ((ji8) : Int).toNat).size + t112.size) = False := eq_false (Nat.not_lt.2 c13)
                        by_cases c14 : ((a0.extract (x5_1 : Int).toNat ((ji8) : Int).toNat) ++ t112).size + x4_1.size ≤ 9223372036854775807
                        · rw [if_pos c14] at H
                          have c14b0 := eq_true c14
                          have c14b1 : decide (((a0.extract (x5_1 : Int).toNat ((ji8) : Int).toNat) ++ t112).size + x4_1.size ≤ 9223372036854775807) = true := decide_eq_true c14
                          try have c14b2 : (9223372036854775807 < ((a0.extract (x5_1 : Int).toNat ((ji8) : Int).toNat) ++ t112).size + x4_1.size) = False := eq_false (Nat.not_lt.2 c14)
                          have H' := Aside0.mk H
                          clear H
                          try go_wp2
                          have n0_ := Aside0.mk (below_drew1 HB.out)
                          clear HB
                          have HB := n0_
                          clear n0_
                          refine start_ (n := 16) (S := fun w' => True) (ds := []) #[false, false, false, false, false, false, false, false, false, false, false, false, false, false, false, false] (by kernel_rfl) rfl rfl trivial (fun hHeld => ?_); refine with_tabW impl_BackPlan.tab7 impl_BackPlan.bits7 (fun HT_ HW_ => ?_)
                          generalize wr.drew = w15 at HB hHeld ⊢
                          refine pure_ (i := 0) (N := some 15) (v := ?_) (a' := ?_) #[true, false, false, false, false, false, false, false, false, false, false, false, false, false, false, false] rfl rfl (any_of HT_.out (by kernel_rfl)) (fun _ _ _ h => h) (Or.inl ⟨by rfl, ?_⟩) ?_ ?_
                          rotate_left
                          · intro w'
                            go_simp
                            first | (with_reducible rfl) | (rw [if_neg (by simp only [ByteArray.size_extract, ByteArray.size_append] at * <;> omega)]; try with_reducible rfl)
                          rotate_left
                          · simp only [Act.put, List.setIfInBounds_toArray, List.set_cons_zero, List.set_cons_succ, i64_w, i32_w]
                            rfl
                          refine pure_ (i := 1) (N := some 16) (v := ?_) (a' := ?_) #[true, true, false, false, false, false, false, false, false, false, false, false, false, false, false, false] rfl rfl (any_of HT_.out (by kernel_rfl)) (fun _ _ _ h => h) (Or.inl ⟨by rfl, ?_⟩) ?_ ?_
                          rotate_left
                          · intro w'
                            go_simp
                            first | (with_reducible rfl) | (rw [if_neg (by simp only [ByteArray.size_extract, ByteArray.size_append] at * <;> omega)]; try with_reducible rfl)
                          rotate_left
                          · simp only [Act.put, List.setIfInBounds_toArray, List.set_cons_zero, List.set_cons_succ, i64_w, i32_w]
                            rfl
                          refine pure_ (i := 2) (N := some 17) (v := ?_) (a' := ?_) #[true, true, true, false, false, false, false, false, false, false, false, false, false, false, false, false] rfl rfl (any_of HT_.out (by kernel_rfl)) (fun _ _ _ h => h) (Or.inl ⟨by rfl, ?_⟩) ?_ ?_
                          rotate_left
                          · intro w'
                            go_simp
                            first | (with_reducible rfl) | (rw [if_neg (by simp only [ByteArray.size_extract, ByteArray.size_append] at * <;> omega)]; try with_reducible rfl)
                          rotate_left
                          · simp only [Act.put, List.setIfInBounds_toArray, List.set_cons_zero, List.set_cons_succ, i64_w, i32_w]
                            rfl
                          refine pure_ (i := 3) (N := some 18) (v := ?_) (a' := ?_) #[true, true, true, true, false, false, false, false, false, false, false, false, false, false, false, false] rfl rfl (any_of HT_.out (by kernel_rfl)) (fun _ _ _ h => h) (Or.inl ⟨by rfl, ?_⟩) ?_ ?_
                          rotate_left
                          · intro w'
                            go_simp
                            first | (with_reducible rfl) | (rw [if_neg (by simp only [ByteArray.size_extract, ByteArray.size_append] at * <;> omega)]; try with_reducible rfl)
                          rotate_left
                          · simp only [Act.put, List.setIfInBounds_toArray, List.set_cons_zero, List.set_cons_succ, i64_w, i32_w]
                            rfl
                          refine pure_ (i := 4) (N := some 19) (v := ?_) (a' := ?_) #[true, true, true, true, true, false, false, false, false, false, false, false, false, false, false, false] rfl rfl (any_of HT_.out (by kernel_rfl)) (fun _ _ _ h => h) (Or.inl ⟨by rfl, ?_⟩) ?_ ?_
                          rotate_left
                          · intro w'
                            go_simp
                            first | (with_reducible rfl) | (rw [if_neg (by simp only [ByteArray.size_extract, ByteArray.size_append] at * <;> omega)]; try with_reducible rfl)
                          rotate_left
                          · simp only [Act.put, List.setIfInBounds_toArray, List.set_cons_zero, List.set_cons_succ, i64_w, i32_w]
                            rfl
                          refine pure_ (i := 5) (N := some 20) (v := ?_) (a' := ?_) #[true, true, true, true, true, true, false, false, false, false, false, false, false, false, false, false] rfl rfl (any_of HT_.out (by kernel_rfl)) (fun _ _ _ h => h) (Or.inl ⟨by rfl, ?_⟩) ?_ ?_
                          rotate_left
                          · intro w'
                            go_simp
                            first | (with_reducible rfl) | (rw [if_neg (by simp only [ByteArray.size_extract, ByteArray.size_append] at * <;> omega)]; try with_reducible rfl)
                          rotate_left
                          · simp only [Act.put, List.setIfInBounds_toArray, List.set_cons_zero, List.set_cons_succ, i64_w, i32_w]
                            rfl
                          refine pure_ (i := 6) (N := some 21) (v := ?_) (a' := ?_) #[true, true, true, true, true, true, true, false, false, false, false, false, false, false, false, false] rfl rfl (any_of HT_.out (by kernel_rfl)) (fun _ _ _ h => h) (Or.inl ⟨by rfl, ?_⟩) ?_ ?_
                          rotate_left
                          · intro w'
                            go_simp
                            first | (with_reducible rfl) | (rw [if_neg (by simp only [ByteArray.size_extract, ByteArray.size_append] at * <;> omega)]; try with_reducible rfl)
                          rotate_left
                          · simp only [Act.put, List.setIfInBounds_toArray, List.set_cons_zero, List.set_cons_succ, i64_w, i32_w]
                            rfl
                          refine pure_ (i := 7) (N := some 22) (v := ?_) (a' := ?_) #[true, true, true, true, true, true, true, true, false, false, false, false, false, false, false, false] rfl rfl (any_of HT_.out (by kernel_rfl)) (fun _ _ _ h => h) (Or.inl ⟨by rfl, ?_⟩) ?_ ?_
                          rotate_left
                          · intro w'
                            go_simp
                            first | (with_reducible rfl) | (rw [if_neg (by simp only [ByteArray.size_extract, ByteArray.size_append] at * <;> omega)]; try with_reducible rfl)
                          rotate_left
                          · simp only [Act.put, List.setIfInBounds_toArray, List.set_cons_zero, List.set_cons_succ, i64_w, i32_w]
                            rfl
                          refine pure_ (i := 8) (N := some 23) (v := ?_) (a' := ?_) #[true, true, true, true, true, true, true, true, true, false, false, false, false, false, false, false] rfl rfl (any_of HT_.out (by kernel_rfl)) (fun _ _ _ h => h) (Or.inl ⟨by rfl, ?_⟩) ?_ ?_
                          rotate_left
                          · intro w'
                            go_simp
                            first | (with_reducible rfl) | (rw [if_neg (by simp only [ByteArray.size_extract, ByteArray.size_append] at * <;> omega)]; try with_reducible rfl)
                          rotate_left
                          · simp only [Act.put, List.setIfInBounds_toArray, List.set_cons_zero, List.set_cons_succ, i64_w, i32_w]
                            rfl
                          refine pure_ (i := 9) (N := some 24) (v := ?_) (a' := ?_) #[true, true, true, true, true, true, true, true, true, true, false, false, false, false, false, false] rfl rfl (any_of HT_.out (by kernel_rfl)) (fun _ _ _ h => h) (Or.inl ⟨by rfl, ?_⟩) ?_ ?_
                          rotate_left
                          · intro w'
                            go_simp
                            first | (with_reducible rfl) | (rw [if_neg (by simp only [ByteArray.size_extract, ByteArray.size_append] at * <;> omega)]; try with_reducible rfl)
                          rotate_left
                          · simp only [Act.put, List.setIfInBounds_toArray, List.set_cons_zero, List.set_cons_succ, i64_w, i32_w]
                            rfl
                          refine pure_ (i := 10) (N := some 25) (v := ?_) (a' := ?_) #[true, true, true, true, true, true, true, true, true, true, true, false, false, false, false, false] rfl rfl (any_of HT_.out (by kernel_rfl)) (fun _ _ _ h => h) (Or.inl ⟨by rfl, ?_⟩) ?_ ?_
                          rotate_left
                          · intro w'
                            go_simp
                            first | (with_reducible rfl) | (rw [if_neg (by simp only [ByteArray.size_extract, ByteArray.size_append] at * <;> omega)]; try with_reducible rfl)
                          rotate_left
                          · simp only [Act.put, List.setIfInBounds_toArray, List.set_cons_zero, List.set_cons_succ, i64_w, i32_w]
                            rfl
                          refine pure_ (i := 13) (N := some 28) (v := ?_) (a' := ?_) #[true, true, true, true, true, true, true, true, true, true, true, false, false, true, false, false] rfl rfl (any_of HT_.out (by kernel_rfl)) (fun _ _ _ h => h) (Or.inl ⟨by rfl, ?_⟩) ?_ ?_
                          rotate_left
                          · intro w'
                            go_simp
                            first | (with_reducible rfl) | (rw [if_neg (by simp only [ByteArray.size_extract, ByteArray.size_append] at * <;> omega)]; try with_reducible rfl)
                          rotate_left
                          · simp only [Act.put, List.setIfInBounds_toArray, List.set_cons_zero, List.set_cons_succ, i64_w, i32_w]
                            rfl
                          refine one_ (i := 11) (N := some 26) #[true, true, true, true, true, true, true, true, true, true, true, true, false, true, false, false] rfl rfl (one_of HT_.out (by kernel_rfl)) (by decide) (fun K hK => ?_)
                          refine goes_ Try.func55 (by kernel_rfl) rfl #[.string (a0.extract ((ji8) : Int).toNat ((wrap64 (x5_1 + 2)) : Int).toNat), .int .i64 2] (by rfl) rfl rfl (by (try simp only [List.map_toArray, List.map_cons, List.map_nil]); first | done | (simp only [hji8]; rfl) | rfl | (simp only [List.length_drop, List.length_take]; rfl)) ?_
                          with_reducible refine (impl_turned.calls (a0.extract ((ji8) : Int).toNat ((wrap64 (x5_1 + 2)) : Int).toNat) 2 t112 _ A12.out).mono ?_
                          rintro e w16 ⟨rfl, hb⟩
                          refine ⟨_, rfl, ?_⟩
                          have n0_ := Aside0.mk (below_step (by repeat (first | (with_reducible first | exact HB.out | apply below_alloc | apply pw_below_drewN | apply below_drew1) | exact HB.out)) hb)
                          clear HB
                          have HB := n0_
                          clear n0_
                          (try clear hb)
                          (try clear hb2)
                          (try clear hk)
                          (try clear hi)
                          refine hK.out _ _ trivial (fun hHeld => ?_)
                          clear hK K
                          refine norm_ (a' := ?_) ?_ ?_
                          rotate_left
                          · show Act.put _ (some 26) _ = _
                            simp only [Act.put, List.setIfInBounds_toArray, List.set_cons_zero, List.set_cons_succ, i64_w, i32_w]
                            rfl
                          refine pure_ (i := 12) (N := some 27) (v := ?_) (a' := ?_) #[true, true, true, true, true, true, true, true, true, true, true, true, true, true, false, false] rfl rfl (any_of HT_.out (by kernel_rfl)) (fun _ _ _ h => h) (Or.inl ⟨by rfl, ?_⟩) ?_ ?_
                          rotate_left
                          · intro w'
                            go_simp
                            first | (with_reducible rfl) | (rw [if_neg (by simp only [ByteArray.size_extract, ByteArray.size_append] at * <;> omega)]; try with_reducible rfl)
                          rotate_left
                          · simp only [Act.put, List.setIfInBounds_toArray, List.set_cons_zero, List.set_cons_succ, i64_w, i32_w]
                            rfl
                          refine pure_ (i := 14) (N := some 29) (v := ?_) (a' := ?_) #[true, true, true, true, true, true, true, true, true, true, true, true, true, true, true, false] rfl rfl (any_of HT_.out (by kernel_rfl)) (fun _ _ _ h => h) (Or.inl ⟨by rfl, ?_⟩) ?_ ?_
                          rotate_left
                          · intro w'
                            go_simp
                            first | (with_reducible rfl) | (rw [if_neg (by simp only [ByteArray.size_extract, ByteArray.size_append] at * <;> omega)]; try with_reducible rfl)
                          rotate_left
                          · simp only [Act.put, List.setIfInBounds_toArray, List.set_cons_zero, List.set_cons_succ, i64_w, i32_w]
                            rfl
                          refine pure_ (i := 15) (N := some 4) (v := ?_) (a' := ?_) #[true, true, true, true, true, true, true, true, true, true, true, true, true, true, true, true] rfl rfl (any_of HT_.out (by kernel_rfl)) (fun _ _ _ h => h) (Or.inl ⟨by rfl, ?_⟩) ?_ ?_
                          rotate_left
                          · intro w'
                            go_simp
                            first | (with_reducible rfl) | (rw [if_neg (by simp only [ByteArray.size_extract, ByteArray.size_append] at * <;> omega)]; try with_reducible rfl)
                          rotate_left
                          · simp only [Act.put, List.setIfInBounds_toArray, List.set_cons_zero, List.set_cons_succ, i64_w, i32_w]
                            rfl
                          refine done_ (done_of HT_.out (by kernel_rfl)) ?_
                          try go_wp2
                          go_roundg k1
                          case measure => have := HK1.out; omega
                          case rel => exact ⟨(((a0.extract (x5_1 : Int).toNat ((ji8) : Int).toNat) ++ t112) ++ x4_1), (wrap64 (x5_1 + 2)), (by first | rfl | (simp; done) | (simp only [← hji8] <;> (first | rfl | simp)) | (simp [*]; done)), (by first | rfl | (simp; done) | (simp [*]; done)), H', ⟨by have := HK1.out; omega⟩, ⟨by repeat (first | (with_reducible first | exact HB.out | apply below_alloc | apply pw_below_drewN | apply below_drew1) | exact HB.out)⟩⟩
                        · rw [if_neg c14] at H
                          exact absurd H (by simp)
                      · rw [if_neg c13] at H
                        exact absurd H (by simp)
                    · rw [if_neg c11] at H
                      exact absurd H (by simp)
                  · rw [if_neg c10] at H
                    exact absurd H (by simp)
                · rw [if_neg c9] at H
                  exact absurd H (by simp)
              · rw [if_neg c7] at H
                exact absurd H (by simp)
            · rw [if_neg c6] at H
              exact absurd H (by simp)
          · rw [if_neg c5] at H
            exact absurd H (by simp)
        · rw [if_neg c4] at H
          have c4b0 : decide (x5_1 < (a0.size : Int)) = false := decide_eq_false c4
          clear c4
          simp only [Option.some.injEq, Prod.mk.injEq] at H
          obtain ⟨rfl, rfl⟩ := H
          go_wp2
          go_ret2
          exact ⟨by first | rfl | (simp [errW_none, errW_some] <;> rfl) | (simp [*, errW_none, errW_some] <;> rfl), by repeat (first | (with_reducible first | exact HB.out | apply below_alloc | apply pw_below_drewN | apply below_drew1) | exact HB.out)⟩
  · replace c3 := Bool.eq_false_iff.mpr c3
    subst c3
    have H1 : (some ((⟨#[]⟩ : ByteArray), false)) = some (r1, r2) := by rw [if_neg (show ¬ (false = true) by decide)] at H; exact H
    clear H
    have H := H1
    clear H1
    simp only [Option.some.injEq, Prod.mk.injEq] at H
    obtain ⟨rfl, rfl⟩ := H
    go_enter Try.func17, Try.ntmps17
    go_wp2_with (first | ((with_reducible refine gate_callee (f := 15) rfl ?_); refine goesL_ (some 7) rfl rfl Try.func15 (by kernel_rfl) rfl #[.string a0] rfl (by (try simp only [List.map_toArray, List.map_cons, List.map_nil]); first | done | rfl | (simp only [List.length_drop, List.length_take]; rfl)) ?_; (with_reducible refine (impl_IsPlan.calls k a0 false _ A2.out).mono ?_); rintro e w' ⟨rfl, ⟨nd, rfl⟩⟩; refine ⟨_, rfl, ?_⟩))
    go_ret2
    exact ⟨by first | rfl | (simp [errW_none, errW_some] <;> rfl) | (simp [*, errW_none, errW_some] <;> rfl), by repeat (first | (with_reducible first | exact HB.out | apply below_alloc | apply pw_below_drewN | apply below_drew1) | exact HB.out)⟩

end Go.Proofs.Ythnheffndhbebaa.P

namespace Go.Proofs.Ythnheffndhbebaa.P
open Go.RowKit Go.Proofs.YthnheffndhbebaaW.PrintWords Go.Proofs.YthnheffndhbebaaW.PrintLast Go.Proofs.YthnheffndhbebaaW.PrintMore
attribute [local go_sem] max2_int min2_int max_two min_two max_three min_three max_four min_four   -- for this text's walks alone
set_option linter.unusedVariables false
set_option linter.unusedSimpArgs false

/-! ### laws_FnExactBackPlan: function 4 -/
def laws_FnExactBackPlan.f (k : Nat) (a0 : ByteArray) : Option (Bool) := if (a0.size : Int) > 1048576 then (some true) else ((spec_BackPlan.f k a0).bind fun bt113 => ((impl_BackPlan.f k a0).bind fun bt115 => (if bt115.1.toList = bt113.1.toList then (if (bt115.2 != bt113.2) = true then (some false) else (some true)) else (some false))))
theorem laws_FnExactBackPlan.mono : ∀ a0 k, LeO (laws_FnExactBackPlan.f k a0) (laws_FnExactBackPlan.f (k + 1) a0) := by
  intro a0 k
  unfold laws_FnExactBackPlan.f
  repeat' first
      | (with_reducible exact impl_BackPlan.mono _ _)
      | (with_reducible exact spec_BackPlan.mono _ _)
      | (with_reducible exact LeO.refl _)
      | (with_reducible exact LeO.none _)
      | (with_reducible refine LeO.ite ?_ ?_)
      | (with_reducible refine LeO.bind ?_ (fun _ => ?_))
      | exact impl_BackPlan.mono _ _
      | exact spec_BackPlan.mono _ _
      | exact LeO.none _
      | refine LeO.ite ?_ ?_
      | refine LeO.bind ?_ (fun _ => ?_)
set_option maxHeartbeats 8000000 in
set_option maxRecDepth 100000 in
theorem laws_FnExactBackPlan.calls (k : Nat) (a0 : ByteArray) (r : Bool) (w : World) (h : laws_FnExactBackPlan.f k a0 = some r) :
    Calls Try.prog 4 #[.string a0] w fun e w' => e = .returned (.bool r) ∧ Below w.heap.size w w' := by
  have HB := Aside0.mk (Below.refl w.heap.size w)
  have H : (if (a0.size : Int) > 1048576 then (some true) else ((spec_BackPlan.f k a0).bind fun bt113 => ((impl_BackPlan.f k a0).bind fun bt115 => (if bt115.1.toList = bt113.1.toList then (if (bt115.2 != bt113.2) = true then (some false) else (some true)) else (some false))))) = some r := h
  clear h
  by_cases c2 : (a0.size : Int) > 1048576
  · rw [if_pos c2] at H
    have c2b0 : decide (1048576 < (a0.size : Int)) = true := decide_eq_true c2
    have c2b1 : decide (1048576 < a0.size) = true := decide_eq_true (by omega)
    clear c2
    obtain rfl := Option.some.inj H
    go_enter Try.func4, Try.ntmps4
    go_wp2
    go_ret
    exact ⟨by first | rfl | (simp [errW_none, errW_some] <;> rfl) | (simp [*, errW_none, errW_some] <;> rfl), by repeat (first | (with_reducible first | exact HB.out | apply below_alloc | apply pw_below_drewN | apply below_drew1) | exact HB.out)⟩
  · rw [if_neg c2] at H
    have c2b0 : decide (1048576 < (a0.size : Int)) = false := decide_eq_false c2
    have c2b1 : decide (1048576 < a0.size) = false := decide_eq_false (by omega)
    clear c2
    replace H := Option.bind_eq_some_iff.mp H
    obtain ⟨⟨t113, t114⟩, A30, H⟩ := H
    replace H : ((impl_BackPlan.f k a0).bind fun bt115 => (if bt115.1.toList = t113.toList then (if (bt115.2 != t114) = true then (some false) else (some true)) else (some false))) = some r := H
    have A3 := Aside0.mk A30
    clear A30
    replace H := Option.bind_eq_some_iff.mp H
    obtain ⟨⟨t115, t116⟩, A40, H⟩ := H
    replace H : (if t115.toList = t113.toList then (if (t116 != t114) = true then (some false) else (some true)) else (some false)) = some r := H
    have A4 := Aside0.mk A40
    clear A40
    by_cases c5 : t115.toList = t113.toList
    · rw [if_pos c5] at H
      have c5b0 : (t115.toList == t113.toList) = true := beq_iff_eq.mpr c5
      have c5b1 : (t115.toList != t113.toList) = false := bne_eq_false_iff_eq.mpr c5
      clear c5
      by_cases c6 : (t116 != t114) = true
      · rw [if_pos c6] at H
        have c6b0 : (t116 != t114) = true := c6
        (try (have c6b1 : decide (t116 = t114) = false := by simpa using c6))
        (try (have c6b2 : (t116 == t114) = false := by simpa using c6))
        (try (have c6b3 : ¬ (t116 = t114) := by simpa using c6))
        clear c6
        obtain rfl := Option.some.inj H
        go_enter Try.func4, Try.ntmps4
        go_wp2_with (first | ((with_reducible refine gate_callee (f := 16) rfl ?_); refine goesL_ (some 12) rfl rfl Try.func16 (by kernel_rfl) rfl #[.string a0] rfl (by (try simp only [List.map_toArray, List.map_cons, List.map_nil]); first | done | rfl | (simp only [List.length_drop, List.length_take]; rfl)) ?_; (with_reducible refine (spec_BackPlan.calls k a0 t113 t114 _ A3.out).mono ?_); rintro e w' ⟨rfl, ⟨nd, rfl⟩⟩; refine ⟨_, rfl, ?_⟩) | ((with_reducible refine gate_callee (f := 17) rfl ?_); refine goesL_ (some 17) rfl rfl Try.func17 (by kernel_rfl) rfl #[.string a0] rfl (by (try simp only [List.map_toArray, List.map_cons, List.map_nil]); first | done | rfl | (simp only [List.length_drop, List.length_take]; rfl)) ?_; (with_reducible refine (impl_BackPlan.calls k a0 t115 t116 _ A4.out).mono ?_); rintro e w7 ⟨rfl, hb⟩; refine ⟨_, rfl, ?_⟩; have n0_ := Aside0.mk (below_step (by repeat (first | (with_reducible first | exact HB.out | apply below_alloc | apply pw_below_drewN | apply below_drew1) | exact HB.out)) hb); clear HB; have HB := n0_; clear n0_; (try clear hb); (try clear hb2); (try clear hk); (try clear hi)))
        go_ret
        exact ⟨by first | rfl | (simp [errW_none, errW_some] <;> rfl) | (simp [*, errW_none, errW_some] <;> rfl), by repeat (first | (with_reducible first | exact HB.out | apply below_alloc | apply pw_below_drewN | apply below_drew1) | exact HB.out)⟩
      · rw [if_neg c6] at H
        have c6b0 : (t116 != t114) = false := by simpa using c6
        (try (have c6b1 : decide (t116 = t114) = true := by simpa using c6))
        (try (have c6b2 : (t116 == t114) = true := by simpa using c6))
        clear c6
        obtain rfl := Option.some.inj H
        go_enter Try.func4, Try.ntmps4
        go_wp2_with (first | ((with_reducible refine gate_callee (f := 16) rfl ?_); refine goesL_ (some 12) rfl rfl Try.func16 (by kernel_rfl) rfl #[.string a0] rfl (by (try simp only [List.map_toArray, List.map_cons, List.map_nil]); first | done | rfl | (simp only [List.length_drop, List.length_take]; rfl)) ?_; (with_reducible refine (spec_BackPlan.calls k a0 t113 t114 _ A3.out).mono ?_); rintro e w' ⟨rfl, ⟨nd, rfl⟩⟩; refine ⟨_, rfl, ?_⟩) | ((with_reducible refine gate_callee (f := 17) rfl ?_); refine goesL_ (some 17) rfl rfl Try.func17 (by kernel_rfl) rfl #[.string a0] rfl (by (try simp only [List.map_toArray, List.map_cons, List.map_nil]); first | done | rfl | (simp only [List.length_drop, List.length_take]; rfl)) ?_; (with_reducible refine (impl_BackPlan.calls k a0 t115 t116 _ A4.out).mono ?_); rintro e w8 ⟨rfl, hb⟩; refine ⟨_, rfl, ?_⟩; have n0_ := Aside0.mk (below_step (by repeat (first | (with_reducible first | exact HB.out | apply below_alloc | apply pw_below_drewN | apply below_drew1) | exact HB.out)) hb); clear HB; have HB := n0_; clear n0_; (try clear hb); (try clear hb2); (try clear hk); (try clear hi)))
        go_ret
        exact ⟨by first | rfl | (simp [errW_none, errW_some] <;> rfl) | (simp [*, errW_none, errW_some] <;> rfl), by repeat (first | (with_reducible first | exact HB.out | apply below_alloc | apply pw_below_drewN | apply below_drew1) | exact HB.out)⟩
    · rw [if_neg c5] at H
      have c5b0 : (t115.toList == t113.toList) = false := beq_eq_false_iff_ne.mpr c5
      have c5b1 : (t115.toList != t113.toList) = true := bne_iff_ne.mpr c5
      obtain rfl := Option.some.inj H
      go_enter Try.func4, Try.ntmps4
      go_wp2_with (first | ((with_reducible refine gate_callee (f := 16) rfl ?_); refine goesL_ (some 12) rfl rfl Try.func16 (by kernel_rfl) rfl #[.string a0] rfl (by (try simp only [List.map_toArray, List.map_cons, List.map_nil]); first | done | rfl | (simp only [List.length_drop, List.length_take]; rfl)) ?_; (with_reducible refine (spec_BackPlan.calls k a0 t113 t114 _ A3.out).mono ?_); rintro e w' ⟨rfl, ⟨nd, rfl⟩⟩; refine ⟨_, rfl, ?_⟩) | ((with_reducible refine gate_callee (f := 17) rfl ?_); refine goesL_ (some 17) rfl rfl Try.func17 (by kernel_rfl) rfl #[.string a0] rfl (by (try simp only [List.map_toArray, List.map_cons, List.map_nil]); first | done | rfl | (simp only [List.length_drop, List.length_take]; rfl)) ?_; (with_reducible refine (impl_BackPlan.calls k a0 t115 t116 _ A4.out).mono ?_); rintro e w9 ⟨rfl, hb⟩; refine ⟨_, rfl, ?_⟩; have n0_ := Aside0.mk (below_step (by repeat (first | (with_reducible first | exact HB.out | apply below_alloc | apply pw_below_drewN | apply below_drew1) | exact HB.out)) hb); clear HB; have HB := n0_; clear n0_; (try clear hb); (try clear hb2); (try clear hk); (try clear hi)))
      go_ret
      exact ⟨by first | rfl | (simp [errW_none, errW_some] <;> rfl) | (simp [*, errW_none, errW_some] <;> rfl), by repeat (first | (with_reducible first | exact HB.out | apply below_alloc | apply pw_below_drewN | apply below_drew1) | exact HB.out)⟩

/-- THE ONE PURE STATEMENT of laws_FnExactBackPlan: yours. -/
def laws_FnExactBackPlan.Pure : Prop := ∀ (a0 : ByteArray), a0.size ≤ 140737488351232 → ∃ k, laws_FnExactBackPlan.f k a0 = some true
theorem laws_FnExactBackPlan.walk (P : laws_FnExactBackPlan.Pure) (a0 : ByteArray) (w : World) (w0 : a0.size ≤ 140737488351232) :
    Calls Try.prog 4 #[.string a0] w fun e w' => e = .returned (.bool true) ∧ Below w.heap.size w w' := by
  obtain ⟨k, h⟩ := P a0 w0
  refine (laws_FnExactBackPlan.calls k a0 true w h).mono ?_
  rintro e w' ⟨rfl, hd⟩
  exact ⟨rfl, hd⟩

end Go.Proofs.Ythnheffndhbebaa.P

namespace Go.Proofs.Ythnheffndhbebaa
open Go.RowKit Go.Proofs.YthnheffndhbebaaW.PrintWords Go.Proofs.YthnheffndhbebaaW.PrintLast
set_option linter.unusedVariables false
set_option linter.unusedSimpArgs false

theorem Ev.at_ {α : Type} {g : Nat → Option α} {r : α} (n : Nat) (h : ∀ k, g (k + n) = some r) : Ev g r := ⟨n, fun k hk => by
  obtain ⟨m, rfl⟩ : ∃ m, k = m + n := ⟨k - n, by omega⟩
  exact h m⟩
theorem Ev.pos {α : Type} {c : Prop} [Decidable c] {g f : Nat → Option α} {r : α} (hc : c) (h : Ev g r) : Ev (fun k => if c then g k else f k) r := h.congr fun k => if_pos hc
theorem Ev.neg {α : Type} {c : Prop} [Decidable c] {g f : Nat → Option α} {r : α} (hc : ¬ c) (h : Ev f r) : Ev (fun k => if c then g k else f k) r := h.congr fun k => if_neg hc
theorem Ev.some_ {α : Type} {a r : α} (h : a = r) : Ev (fun _ => some a) r := ⟨0, fun _ _ => by rw [h]⟩
theorem Ev.bindc {α β : Type} {o : Option α} {f : Nat → α → Option β} {a : α} {r : β} (h : o = some a) (k : Ev (fun n => f n a) r) : Ev (fun n => o.bind (f n)) r := k.congr fun n => by rw [h]; rfl
theorem w64 {i : Int} (h0 : -9223372036854775808 ≤ i) (h1 : i ≤ 9223372036854775807) : wrap64 i = i := by unfold wrap64; omega

end Go.Proofs.Ythnheffndhbebaa

namespace Go.Proofs.Ythnheffndhbebaa
open Go.RowKit Go.Proofs.Ythnheffndhbebaa.P Go.Proofs.YthnheffndhbebaaW.PrintWords Go.Proofs.YthnheffndhbebaaW.PrintLast
set_option linter.unusedVariables false
set_option linter.unusedSimpArgs false

/-- The index of a direction, or -1. -/
def dirI (l : List UInt8) : Int := if l = [110] then 0 else if l = [101] then 1 else if l = [115] then 2 else if l = [119] then 3 else -1

theorem spec_diDir_ev (a : ByteArray) : Ev (fun k => spec_diDir.f k a) (dirI a.data.toList) := by
  refine Ev.at_ 5 fun k => ?_
  have e0 : ((⟨#[110, 101, 115, 119]⟩ : ByteArray).extract 0 1).toList = [110] := by decide +kernel
  have e1 : ((⟨#[110, 101, 115, 119]⟩ : ByteArray).extract 1 2).toList = [101] := by decide +kernel
  have e2 : ((⟨#[110, 101, 115, 119]⟩ : ByteArray).extract 2 3).toList = [115] := by decide +kernel
  have e3 : ((⟨#[110, 101, 115, 119]⟩ : ByteArray).extract 3 4).toList = [119] := by decide +kernel
  have hz : ((⟨#[110, 101, 115, 119]⟩ : ByteArray).size : Int) = 4 := rfl
  simp [spec_diDir.f, spec_diDir.l0, spec_diDirs.f, dirI, wrap64, Go.Lib.toList_data a, e0, e1, e2, e3, hz]
  repeat (split; rfl)
  rfl
theorem dlen (s : ByteArray) : s.data.toList.length = s.size := by rw [Array.length_toList]; rfl
theorem bt_get (s : ByteArray) (i : Nat) (h : i < s.data.toList.length) : bt s (i : Int) = ((s.data.toList[i]).toNat : Int) := by
  have h' : i < s.size := by rw [← dlen]; exact h
  unfold bt
  rw [dif_pos (by simpa using h')]
  simp only [Int.toNat_natCast, Array.getElem_toList]
  rfl
theorem ext1 (s : ByteArray) (i : Nat) (h : i < s.data.toList.length) : (s.extract i (i + 1)).data.toList = [s.data.toList[i]] := by
  rw [Go.Lib.extract_data, show i + 1 - i = 1 by omega, List.drop_eq_getElem_cons h]
  rfl
theorem spec_diDir_at (s : ByteArray) (i : Nat) (h : i < s.data.toList.length) : Ev (fun k => spec_diDir.f k (s.extract i (i + 1))) (dirI [s.data.toList[i]]) := by
  have := spec_diDir_ev (s.extract i (i + 1))
  rwa [ext1 s i h] at this
theorem dirI_one (c : UInt8) : (dirI [c] < 0) = (¬ (c = 110 ∨ c = 101 ∨ c = 115 ∨ c = 119)) := by
  unfold dirI
  by_cases h1 : c = 110
  · simp [h1]
  by_cases h2 : c = 101
  · simp [h2]
  by_cases h3 : c = 115
  · simp [h3]
  by_cases h4 : c = 119
  · simp [h4]
  simp [h1, h2, h3, h4]
end Go.Proofs.Ythnheffndhbebaa

namespace Go.Proofs.Ythnheffndhbebaa.P
open Go.RowKit Go.Proofs.YthnheffndhbebaaW.PrintWords Go.Proofs.YthnheffndhbebaaW.PrintLast Go.Proofs.YthnheffndhbebaaW.PrintMore
attribute [local go_sem] max2_int min2_int max_two min_two max_three min_three max_four min_four   -- for this text's walks alone
set_option linter.unusedVariables false
set_option linter.unusedSimpArgs false

/-! ### spec_IsPlan: function 14 -/
def spec_IsPlan.f (k : Nat) (a0 : ByteArray) : Option (Bool) := (spec_myPlan.f k a0).bind fun t103 => (some t103)
theorem spec_IsPlan.mono : ∀ a0 k, LeO (spec_IsPlan.f k a0) (spec_IsPlan.f (k + 1) a0) := by
  intro a0 k
  unfold spec_IsPlan.f
  repeat' first
      | (with_reducible exact spec_myPlan.mono _ _)
      | (with_reducible exact LeO.refl _)
      | (with_reducible exact LeO.none _)
      | (with_reducible refine LeO.ite ?_ ?_)
      | (with_reducible refine LeO.bind ?_ (fun _ => ?_))
      | exact spec_myPlan.mono _ _
      | exact LeO.none _
      | refine LeO.ite ?_ ?_
      | refine LeO.bind ?_ (fun _ => ?_)
set_option maxHeartbeats 8000000 in
set_option maxRecDepth 100000 in
theorem spec_IsPlan.calls (k : Nat) (a0 : ByteArray) (r : Bool) (w : World) (h : spec_IsPlan.f k a0 = some r) :
    Calls Try.prog 14 #[.string a0] w fun e w' => e = .returned (.bool r) ∧ Drawn0 w w' := by
  have H : ((spec_myPlan.f k a0).bind fun t103 => (some t103)) = some r := h
  clear h
  replace H := Option.bind_eq_some_iff.mp H
  obtain ⟨t103, A20, H⟩ := H
  replace H : (some t103) = some r := H
  have A2 := Aside0.mk A20
  clear A20
  obtain rfl := Option.some.inj H
  go_enter Try.func14, Try.ntmps14
  go_wp2_with (first | ((with_reducible refine gate_callee (f := 52) rfl ?_); refine goesL_ (some 4) rfl rfl Try.func52 (by kernel_rfl) rfl #[.string a0] rfl (by (try simp only [List.map_toArray, List.map_cons, List.map_nil]); first | done | rfl | (simp only [List.length_drop, List.length_take]; rfl)) ?_; (with_reducible refine (spec_myPlan.calls k a0 t103 _ A2.out).mono ?_); rintro e w' ⟨rfl, ⟨nd, rfl⟩⟩; refine ⟨_, rfl, ?_⟩))
  go_ret
  exact ⟨by first | rfl | (simp; done) | (simp [*]; done), by repeat (first | exact Drawn0.refl _ | apply Drawn0.step)⟩

end Go.Proofs.Ythnheffndhbebaa.P

namespace Go.Proofs.Ythnheffndhbebaa.P
open Go.RowKit Go.Proofs.YthnheffndhbebaaW.PrintWords Go.Proofs.YthnheffndhbebaaW.PrintLast Go.Proofs.YthnheffndhbebaaW.PrintMore
attribute [local go_sem] max2_int min2_int max_two min_two max_three min_three max_four min_four   -- for this text's walks alone
set_option linter.unusedVariables false
set_option linter.unusedSimpArgs false

/-! ### laws_FnExactIsPlan: function 3 -/
def laws_FnExactIsPlan.f (k : Nat) (a0 : ByteArray) : Option (Bool) := if (a0.size : Int) > 1048576 then (some true) else ((spec_IsPlan.f k a0).bind fun t105 => ((impl_IsPlan.f k a0).bind fun t106 => (if (t106 != t105) = true then (some false) else (some true))))
theorem laws_FnExactIsPlan.mono : ∀ a0 k, LeO (laws_FnExactIsPlan.f k a0) (laws_FnExactIsPlan.f (k + 1) a0) := by
  intro a0 k
  unfold laws_FnExactIsPlan.f
  repeat' first
      | (with_reducible exact impl_IsPlan.mono _ _)
      | (with_reducible exact spec_IsPlan.mono _ _)
      | (with_reducible exact LeO.refl _)
      | (with_reducible exact LeO.none _)
      | (with_reducible refine LeO.ite ?_ ?_)
      | (with_reducible refine LeO.bind ?_ (fun _ => ?_))
      | exact impl_IsPlan.mono _ _
      | exact spec_IsPlan.mono _ _
      | exact LeO.none _
      | refine LeO.ite ?_ ?_
      | refine LeO.bind ?_ (fun _ => ?_)
set_option maxHeartbeats 8000000 in
set_option maxRecDepth 100000 in
theorem laws_FnExactIsPlan.calls (k : Nat) (a0 : ByteArray) (r : Bool) (w : World) (h : laws_FnExactIsPlan.f k a0 = some r) :
    Calls Try.prog 3 #[.string a0] w fun e w' => e = .returned (.bool r) ∧ Drawn0 w w' := by
  have H : (if (a0.size : Int) > 1048576 then (some true) else ((spec_IsPlan.f k a0).bind fun t105 => ((impl_IsPlan.f k a0).bind fun t106 => (if (t106 != t105) = true then (some false) else (some true))))) = some r := h
  clear h
  by_cases c2 : (a0.size : Int) > 1048576
  · rw [if_pos c2] at H
    have c2b0 : decide (1048576 < (a0.size : Int)) = true := decide_eq_true c2
    have c2b1 : decide (1048576 < a0.size) = true := decide_eq_true (by omega)
    clear c2
    obtain rfl := Option.some.inj H
    go_enter Try.func3, Try.ntmps3
    go_wp2
    go_ret
    exact ⟨by first | rfl | (simp; done) | (simp [*]; done), by repeat (first | exact Drawn0.refl _ | apply Drawn0.step)⟩
  · rw [if_neg c2] at H
    have c2b0 : decide (1048576 < (a0.size : Int)) = false := decide_eq_false c2
    have c2b1 : decide (1048576 < a0.size) = false := decide_eq_false (by omega)
    clear c2
    replace H := Option.bind_eq_some_iff.mp H
    obtain ⟨t105, A30, H⟩ := H
    replace H : ((impl_IsPlan.f k a0).bind fun t106 => (if (t106 != t105) = true then (some false) else (some true))) = some r := H
    have A3 := Aside0.mk A30
    clear A30
    replace H := Option.bind_eq_some_iff.mp H
    obtain ⟨t106, A40, H⟩ := H
    replace H : (if (t106 != t105) = true then (some false) else (some true)) = some r := H
    have A4 := Aside0.mk A40
    clear A40
    by_cases c5 : (t106 != t105) = true
    · rw [if_pos c5] at H
      have c5b0 : (t106 != t105) = true := c5
      (try (have c5b1 : decide (t106 = t105) = false := by simpa using c5))
      (try (have c5b2 : (t106 == t105) = false := by simpa using c5))
      (try (have c5b3 : ¬ (t106 = t105) := by simpa using c5))
      clear c5
      obtain rfl := Option.some.inj H
      go_enter Try.func3, Try.ntmps3
      go_wp2_with (first | ((with_reducible refine gate_callee (f := 14) rfl ?_); refine goesL_ (some 9) rfl rfl Try.func14 (by kernel_rfl) rfl #[.string a0] rfl (by (try simp only [List.map_toArray, List.map_cons, List.map_nil]); first | done | rfl | (simp only [List.length_drop, List.length_take]; rfl)) ?_; (with_reducible refine (spec_IsPlan.calls k a0 t105 _ A3.out).mono ?_); rintro e w' ⟨rfl, ⟨nd, rfl⟩⟩; refine ⟨_, rfl, ?_⟩) | ((with_reducible refine gate_callee (f := 15) rfl ?_); refine goesL_ (some 11) rfl rfl Try.func15 (by kernel_rfl) rfl #[.string a0] rfl (by (try simp only [List.map_toArray, List.map_cons, List.map_nil]); first | done | rfl | (simp only [List.length_drop, List.length_take]; rfl)) ?_; (with_reducible refine (impl_IsPlan.calls k a0 t106 _ A4.out).mono ?_); rintro e w' ⟨rfl, ⟨nd, rfl⟩⟩; refine ⟨_, rfl, ?_⟩))
      go_ret
      exact ⟨by first | rfl | (simp; done) | (simp [*]; done), by repeat (first | exact Drawn0.refl _ | apply Drawn0.step)⟩
    · rw [if_neg c5] at H
      have c5b0 : (t106 != t105) = false := by simpa using c5
      (try (have c5b1 : decide (t106 = t105) = true := by simpa using c5))
      (try (have c5b2 : (t106 == t105) = true := by simpa using c5))
      clear c5
      obtain rfl := Option.some.inj H
      go_enter Try.func3, Try.ntmps3
      go_wp2_with (first | ((with_reducible refine gate_callee (f := 14) rfl ?_); refine goesL_ (some 9) rfl rfl Try.func14 (by kernel_rfl) rfl #[.string a0] rfl (by (try simp only [List.map_toArray, List.map_cons, List.map_nil]); first | done | rfl | (simp only [List.length_drop, List.length_take]; rfl)) ?_; (with_reducible refine (spec_IsPlan.calls k a0 t105 _ A3.out).mono ?_); rintro e w' ⟨rfl, ⟨nd, rfl⟩⟩; refine ⟨_, rfl, ?_⟩) | ((with_reducible refine gate_callee (f := 15) rfl ?_); refine goesL_ (some 11) rfl rfl Try.func15 (by kernel_rfl) rfl #[.string a0] rfl (by (try simp only [List.map_toArray, List.map_cons, List.map_nil]); first | done | rfl | (simp only [List.length_drop, List.length_take]; rfl)) ?_; (with_reducible refine (impl_IsPlan.calls k a0 t106 _ A4.out).mono ?_); rintro e w' ⟨rfl, ⟨nd, rfl⟩⟩; refine ⟨_, rfl, ?_⟩))
      go_ret
      exact ⟨by first | rfl | (simp; done) | (simp [*]; done), by repeat (first | exact Drawn0.refl _ | apply Drawn0.step)⟩

/-- THE ONE PURE STATEMENT of laws_FnExactIsPlan: yours. -/
def laws_FnExactIsPlan.Pure : Prop := ∀ (a0 : ByteArray), a0.size ≤ 140737488351232 → ∃ k, laws_FnExactIsPlan.f k a0 = some true
theorem laws_FnExactIsPlan.walk (P : laws_FnExactIsPlan.Pure) (a0 : ByteArray) (w : World) (w0 : a0.size ≤ 140737488351232) :
    Calls Try.prog 3 #[.string a0] w fun e w' => e = .returned (.bool true) ∧ Below w.heap.size w w' := by
  obtain ⟨k, h⟩ := P a0 w0
  refine (laws_FnExactIsPlan.calls k a0 true w h).mono ?_
  rintro e w' ⟨rfl, hd⟩
  exact ⟨rfl, hd.below⟩

end Go.Proofs.Ythnheffndhbebaa.P

namespace Go.Proofs.Ythnheffndhbebaa
open Go.RowKit Go.Proofs.Ythnheffndhbebaa.P Go.Proofs.YthnheffndhbebaaW.PrintWords Go.Proofs.YthnheffndhbebaaW.PrintLast
set_option linter.unusedVariables false
set_option linter.unusedSimpArgs false

def isDirB (c : UInt8) : Bool := decide (c = 110 ∨ c = 101 ∨ c = 115 ∨ c = 119)
def planOk : List UInt8 → Bool
  | c :: d :: r => decide (48 ≤ c.toNat ∧ c.toNat ≤ 50) && isDirB d && planOk r
  | _ => true
def isPlanB (l : List UInt8) : Bool := decide (l.length % 2 = 0) && decide (l.length ≤ 120) && planOk l

theorem drop2 {l : List UInt8} {i : Nat} (h : i + 1 < l.length) : l.drop i = l[i] :: l[i + 1] :: l.drop (i + 2) := by
  rw [List.drop_eq_getElem_cons (by omega), List.drop_eq_getElem_cons h]

theorem myPlan_loop (a : ByteArray) (hs : a.size ≤ 1048576) (he : a.size % 2 = 0) (d : Nat) : ∀ i : Nat, i ≤ a.size → i % 2 = 0 → a.size - i ≤ d → Ev (fun k => spec_myPlan.l0 k a (i : Int)) (planOk (a.data.toList.drop i)) := by
  induction d using Nat.strongRecOn with
  | _ d ih =>
    intro i hi h2 hd
    have hl := dlen a
    refine Ev.step (f := fun k => _) (fun k => by rw [spec_myPlan.l0]) ?_
    by_cases hlt : i < a.size
    · have hp : i + 1 < a.data.toList.length := by omega
      have b0 := bt_get a i (by omega)
      have hdd := spec_diDir_at a (i + 1) hp
      rw [drop2 hp]
      have w1 : wrap64 ((i : Int) + 1) = ((i + 1 : Nat) : Int) := by unfold wrap64; omega
      have w2 : wrap64 ((i : Int) + 2) = ((i + 2 : Nat) : Int) := by unfold wrap64; omega
      rw [w1, w2]
      refine Ev.pos (by omega) (Ev.pos (by omega) ?_)
      rw [b0]
      simp only [Int.toNat_natCast]
      generalize a.data.toList[i] = c
      generalize a.data.toList[i + 1] = e at hdd ⊢
      simp only [planOk]
      by_cases c1 : (c.toNat : Int) < 48
      · refine Ev.pos c1 (Ev.some_ ?_)
        rw [decide_eq_false (by omega)]; rfl
      refine Ev.neg c1 ?_
      by_cases c2 : (c.toNat : Int) ≥ 51
      · refine Ev.pos c2 (Ev.some_ ?_)
        rw [decide_eq_false (by omega)]; rfl
      refine Ev.neg c2 (Ev.pos (by omega) (Ev.pos (by omega) (Ev.pos (by omega) ?_)))
      rw [decide_eq_true (by omega)]
      refine Ev.bind hdd ?_
      by_cases c3 : e = 110 ∨ e = 101 ∨ e = 115 ∨ e = 119
      · refine Ev.neg (by rw [dirI_one]; exact fun h => h c3) ?_
        rw [show isDirB e = true from decide_eq_true c3]
        exact (ih (d - 2) (by omega) (i + 2) (by omega) (by omega) (by omega))
      · refine Ev.pos (by rw [dirI_one]; exact c3) (Ev.some_ ?_)
        rw [show isDirB e = false from decide_eq_false c3]; rfl
    · refine Ev.neg (by omega) (Ev.some_ ?_)
      rw [List.drop_eq_nil_of_le (by omega)]
      rfl
theorem spec_IsPlan_ev (a : ByteArray) (hs : a.size ≤ 1048576) : Ev (fun k => spec_IsPlan.f k a) (isPlanB a.data.toList) := by
  have hl := dlen a
  unfold spec_IsPlan.f spec_myPlan.f
  refine Ev.bind (a := isPlanB a.data.toList) ?_ (Ev.now _)
  unfold isPlanB
  have hj : ∀ b : Bool, Ev (fun k => spec_myPlan.j0 k a b) (if b = true then false else planOk a.data.toList) ∨ a.size % 2 = 1 := by
    intro b
    rcases Nat.mod_two_eq_zero_or_one a.size with h | h
    · refine .inl (Ev.step (f := fun k => _) (fun k => by rw [spec_myPlan.j0]) ?_)
      cases b
      · exact Ev.neg (by decide) (myPlan_loop a (by omega) h _ 0 (by omega) (by omega) (Nat.le_refl _))
      · exact Ev.pos rfl (Ev.now _)
    · exact .inr h
  by_cases h : a.size % 2 = 0
  · rcases hj (decide ((a.size : Int) > 120)) with hj | hj
    · refine Ev.pos (by omega) ?_
      rw [hl, decide_eq_true h, Bool.true_and]
      by_cases h2 : a.size ≤ 120
      · rw [decide_eq_true h2]
        rw [decide_eq_false (by omega)] at hj ⊢
        exact hj
      · rw [decide_eq_false h2]
        rw [decide_eq_true (by omega)] at hj ⊢
        exact hj
    · omega
  · refine Ev.neg (by omega) (Ev.step (f := fun k => _) (fun k => by rw [spec_myPlan.j0]) (Ev.pos rfl (Ev.some_ ?_)))
    rw [hl, decide_eq_false h]; rfl

theorem ix_lt (c : UInt8) : (Lib.indexByte [110, 101, 115, 119] c < 0) = (¬ (c = 110 ∨ c = 101 ∨ c = 115 ∨ c = 119)) := by
  by_cases h : c = 110 ∨ c = 101 ∨ c = 115 ∨ c = 119
  · rcases h with rfl | rfl | rfl | rfl <;> decide +kernel
  · simp only [not_or] at h
    obtain ⟨h1, h2, h3, h4⟩ := h
    have e : Lib.indexByte [110, 101, 115, 119] c = -1 := by
      simp only [Lib.indexByte, beq_iff_eq, Ne.symm h1, Ne.symm h2, Ne.symm h3, Ne.symm h4, if_false]
      decide
    rw [e]
    simp [h1, h2, h3, h4]

theorem impl_IsPlan_loop (a : ByteArray) (hs : a.size ≤ 1048576) (d : Nat) : ∀ i : Nat, i ≤ a.size + 1 → i % 2 = 0 → a.size + 1 - i ≤ d →
    Ev (fun k => impl_IsPlan.l0 k a (i : Int)) (planOk (a.data.toList.drop i) && (decide (a.size % 2 = 0) && decide (a.size ≤ 120))) := by
  induction d using Nat.strongRecOn with
  | _ d ih =>
    intro i hi h2 hd
    have hl := dlen a
    refine Ev.step (f := fun k => _) (fun k => by rw [impl_IsPlan.l0]) ?_
    have w1 : wrap64 ((i : Int) + 1) = ((i + 1 : Nat) : Int) := by unfold wrap64; omega
    have w2 : wrap64 ((i : Int) + 2) = ((i + 2 : Nat) : Int) := by unfold wrap64; omega
    rw [w1, w2]
    by_cases hp : i + 1 < a.data.toList.length
    · have b0 := bt_get a i (by omega)
      have b1 := bt_get a (i + 1) hp
      rw [drop2 hp]
      refine Ev.pos (by omega) (Ev.pos (by omega) (Ev.pos (by omega) ?_))
      rw [b0, b1]
      simp only [strings_IndexByte.f, Option.bind_some]
      generalize a.data.toList[i] = c
      generalize a.data.toList[i + 1] = e
      simp only [planOk]
      by_cases c1 : (c.toNat : Int) < 48
      · refine Ev.pos c1 (Ev.some_ ?_)
        rw [decide_eq_false (by omega)]; rfl
      refine Ev.neg c1 ?_
      by_cases c2 : (c.toNat : Int) > 50
      · refine Ev.pos c2 (Ev.some_ ?_)
        rw [decide_eq_false (by omega)]; rfl
      refine Ev.neg c2 (Ev.pos (by omega) ?_)
      rw [decide_eq_true (by omega)]
      have hu : ((e.toNat : Int).toNat).toUInt8 = e := by simp
      rw [hu]
      by_cases c3 : e = 110 ∨ e = 101 ∨ e = 115 ∨ e = 119
      · refine Ev.neg (by rw [ix_lt]; exact fun h => h c3) ?_
        rw [show isDirB e = true from decide_eq_true c3]
        exact (ih (d - 2) (by omega) (i + 2) (by omega) (by omega) (by omega))
      · refine Ev.pos (by rw [ix_lt]; exact c3) (Ev.some_ ?_)
        rw [show isDirB e = false from decide_eq_false c3]; rfl
    · have hpk : planOk (a.data.toList.drop i) = true := by
        rcases Nat.lt_or_ge i a.data.toList.length with h | h
        · rw [List.drop_eq_getElem_cons h, List.drop_eq_nil_of_le (by omega)]; rfl
        · rw [List.drop_eq_nil_of_le h]; rfl
      rw [hpk]
      refine Ev.neg (by omega) ?_
      by_cases h : a.size % 2 = 0
      · refine Ev.pos (by omega) (Ev.some_ ?_)
        rw [decide_eq_true h]
        simp only [Bool.true_and]
        by_cases h2 : a.size ≤ 120
        · rw [decide_eq_true h2, decide_eq_true (by omega)]
        · rw [decide_eq_false h2, decide_eq_false (by omega)]
      · refine Ev.neg (by omega) (Ev.some_ ?_)
        rw [decide_eq_false h]; rfl

theorem impl_IsPlan_ev (a : ByteArray) (hs : a.size ≤ 1048576) : Ev (fun k => impl_IsPlan.f k a) (isPlanB a.data.toList) := by
  have := impl_IsPlan_loop a hs _ 0 (by omega) (by omega) (Nat.le_refl _)
  unfold impl_IsPlan.f isPlanB
  rw [dlen]
  rw [List.drop_zero, Bool.and_comm] at this
  exact this
end Go.Proofs.Ythnheffndhbebaa

namespace Go.Proofs.Ythnheffndhbebaa
open Go.RowKit Go.Proofs.Ythnheffndhbebaa.P Go.Proofs.YthnheffndhbebaaW.PrintWords Go.Proofs.YthnheffndhbebaaW.PrintLast
set_option linter.unusedVariables false
set_option linter.unusedSimpArgs false

def planBack : List UInt8 → List UInt8
  | c :: d :: r => planBack r ++ [c, turnB 2 d]
  | _ => []
theorem planBack_snoc (c d : UInt8) : ∀ (n : Nat) (l : List UInt8), l.length = 2 * n → planBack (l ++ [c, d]) = c :: turnB 2 d :: planBack l
  | 0, l, h => by
    obtain rfl : l = [] := List.eq_nil_of_length_eq_zero (by omega)
    rfl
  | n + 1, l, h => by
    match l, h with
    | x :: y :: r, h =>
      have := planBack_snoc c d n r (by simp at h; omega)
      simp [planBack, this]
theorem take2 {l : List UInt8} {i : Nat} (h : i + 1 < l.length) : l.take (i + 2) = l.take i ++ [l[i], l[i + 1]] := by
  rw [List.take_succ_eq_append_getElem h, List.take_succ_eq_append_getElem (by omega), List.append_assoc]
  rfl
theorem planOk_drop : ∀ (n : Nat) (l : List UInt8), planOk l = true → planOk (l.drop (2 * n)) = true
  | 0, l, h => h
  | n + 1, [], h => by simp [planOk]
  | n + 1, [x], h => by simp [planOk, Nat.mul_add]
  | n + 1, x :: y :: r, h => by
    have h' : planOk r = true := by simp only [planOk, Bool.and_eq_true] at h; exact h.2
    have := planOk_drop n r h'
    simpa [Nat.mul_add] using this
theorem planOk_at {l : List UInt8} (h : planOk l = true) {i : Nat} (h2 : i % 2 = 0) (hi : i + 1 < l.length) : isDirB l[i + 1] = true := by
  have := planOk_drop (i / 2) l h
  rw [show 2 * (i / 2) = i by omega, drop2 hi] at this
  simp only [planOk, Bool.and_eq_true] at this
  exact this.1.2

theorem one_bytes {b : ByteArray} {c : UInt8} (h : b.data.toList = [c]) : b = ⟨#[c]⟩ := by
  obtain ⟨d⟩ := b
  obtain ⟨l⟩ := d
  simp at h
  rw [h]
theorem diBack_one (b : ByteArray) (c : UInt8) (hb : b.data.toList = [c]) (hc : isDirB c = true) : Ev (fun k => spec_diBack.f k b) ⟨#[turnB 2 c]⟩ := by
  have hdd := spec_diDir_ev b
  rw [hb] at hdd
  obtain rfl := one_bytes hb
  have e : ∀ c : UInt8, (⟨#[c]⟩ : ByteArray).extract 0 1 = ⟨#[c]⟩ := fun c => by
    apply one_bytes
    rw [Go.Lib.extract_data]; rfl
  have z : ((⟨#[c]⟩ : ByteArray).size : Int) = 1 := rfl
  have hq : ((⟨#[110, 101, 115, 119]⟩ : ByteArray).size : Int) = 4 := rfl
  have hn : (⟨#[]⟩ : ByteArray).size = 0 := rfl
  unfold spec_diBack.f
  rw [z]
  refine Ev.step (f := fun k => _) (fun k => by rw [spec_diBack.l0]) ?_
  simp only [show wrap64 (1 - 1) = 0 by decide +kernel, show wrap64 (0 + 1) = 1 by decide +kernel, z]
  refine Ev.pos (by decide +kernel) (Ev.pos (by decide +kernel) (Ev.pos (by decide +kernel) (Ev.pos (by decide +kernel) ?_)))
  simp only [show ((0 : Int) : Int).toNat = 0 from rfl, show ((1 : Int) : Int).toNat = 1 from rfl, e]
  refine Ev.bind hdd ?_
  simp only [spec_diDirs.f, Option.bind_some, hq, hn]
  have hc' : c = 110 ∨ c = 101 ∨ c = 115 ∨ c = 119 := of_decide_eq_true hc
  rcases hc' with rfl | rfl | rfl | rfl
  all_goals
    refine Ev.pos (by decide +kernel) (Ev.pos (by decide +kernel) (Ev.pos (by decide +kernel) (Ev.pos (by decide +kernel) ?_)))
    refine Ev.step (f := fun k => _) (fun k => by rw [spec_diBack.l0]) ?_
    refine Ev.neg (by decide +kernel) (Ev.some_ ?_)
    decide +kernel
theorem turned_one (b : ByteArray) (c : UInt8) (hb : b.data.toList = [c]) (hc : isDirB c = true) : impl_turned.f b 2 = some ⟨#[turnB 2 c]⟩ := by
  obtain rfl := one_bytes hb
  have hc' : c = 110 ∨ c = 101 ∨ c = 115 ∨ c = 119 := of_decide_eq_true hc
  rcases hc' with rfl | rfl | rfl | rfl <;> decide +kernel
theorem spec_BackPlan_loop (a : ByteArray) (hs : a.size ≤ 1048576) (he : a.size % 2 = 0) (hok : planOk a.data.toList = true) (n : Nat) : ∀ (x : ByteArray), 2 * n ≤ a.size → x.size + 2 * n ≤ a.size →
    Ev (fun k => spec_BackPlan.l0 k a x (2 * (n : Int) - 2)) (⟨(x.data.toList ++ planBack (a.data.toList.take (2 * n))).toArray⟩, true) := by
  induction n with
  | zero =>
    intro x h1 h2
    refine Ev.step (f := fun k => _) (fun k => by rw [spec_BackPlan.l0]) ?_
    refine Ev.neg (by omega) (Ev.some_ ?_)
    simp [planBack]
  | succ n ih =>
    intro x h1 h2
    have hl := dlen a
    have hi : 2 * n + 1 < a.data.toList.length := by omega
    refine Ev.step (f := fun k => _) (fun k => by rw [spec_BackPlan.l0]) ?_
    rw [show 2 * ((n + 1 : Nat) : Int) - 2 = ((2 * n : Nat) : Int) by omega]
    have w1 : wrap64 (((2 * n : Nat) : Int) + 1) = ((2 * n + 1 : Nat) : Int) := by unfold wrap64; omega
    have w2 : wrap64 (((2 * n : Nat) : Int) + 2) = ((2 * n + 2 : Nat) : Int) := by unfold wrap64; omega
    have w3 : wrap64 (((2 * n : Nat) : Int) - 2) = 2 * (n : Int) - 2 := by unfold wrap64; omega
    rw [w1, w2, w3]
    refine Ev.pos (by omega) (Ev.pos (by omega) (Ev.pos (by omega) (Ev.pos (by omega) (Ev.pos (by omega) (Ev.pos (by omega) (Ev.pos (by omega) ?_))))))
    simp only [Int.toNat_natCast]
    refine Ev.bind (diBack_one _ _ (ext1 a (2 * n + 1) hi) (planOk_at hok (by omega) hi)) ?_
    have e1 := ext1 a (2 * n) (by omega)
    have s1 : (a.extract (2 * n) (2 * n + 1)).size = 1 := by rw [← dlen, e1]; rfl
    have s2 : ∀ c : UInt8, (⟨#[c]⟩ : ByteArray).size = 1 := fun _ => rfl
    refine Ev.pos (by rw [s1, s2]; decide) (Ev.pos (by rw [ByteArray.size_append, s1, s2]; omega) ?_)
    have := ih (x ++ (a.extract (2 * n) (2 * n + 1) ++ ⟨#[turnB 2 a.data.toList[2 * n + 1]]⟩)) (by omega) (by rw [ByteArray.size_append, ByteArray.size_append, s1, s2]; omega)
    refine cast (congrArg _ ?_) this
    rw [show 2 * (n + 1) = 2 * n + 2 by omega, take2 hi, planBack_snoc _ _ n _ (by rw [List.length_take]; omega)]
    simp only [Go.Joins.data_append, e1, List.append_assoc, List.cons_append, List.nil_append, show ∀ c : UInt8, (⟨#[c]⟩ : ByteArray).data.toList = [c] from fun _ => rfl]

theorem impl_BackPlan_loop (a : ByteArray) (hs : a.size ≤ 1048576) (he : a.size % 2 = 0) (hok : planOk a.data.toList = true) (d : Nat) : ∀ (i : Nat) (x : ByteArray), i ≤ a.size → i % 2 = 0 → a.size - i = d → x.size ≤ i →
    Ev (fun k => impl_BackPlan.l0 k a x (i : Int)) (⟨(planBack (a.data.toList.drop i) ++ x.data.toList).toArray⟩, true) := by
  induction d using Nat.strongRecOn with
  | _ d ih =>
    intro i x hi h2 hd hx
    have hl := dlen a
    refine Ev.step (f := fun k => _) (fun k => by rw [impl_BackPlan.l0]) ?_
    by_cases hlt : i < a.size
    · have hp : i + 1 < a.data.toList.length := by omega
      have w1 : wrap64 ((i : Int) + 1) = ((i + 1 : Nat) : Int) := by unfold wrap64; omega
      have w2 : wrap64 ((i : Int) + 2) = ((i + 2 : Nat) : Int) := by unfold wrap64; omega
      rw [w1, w2]
      refine Ev.pos (by omega) (Ev.pos (by omega) (Ev.pos (by omega) (Ev.pos (by omega) (Ev.pos (by omega) (Ev.pos (by omega) (Ev.pos (by omega) ?_))))))
      simp only [Int.toNat_natCast]
      refine Ev.bindc (turned_one _ _ (ext1 a (i + 1) hp) (planOk_at hok h2 hp)) ?_
      have e1 := ext1 a i (by omega)
      have s1 : (a.extract i (i + 1)).size = 1 := by rw [← dlen, e1]; rfl
      have s2 : ∀ c : UInt8, (⟨#[c]⟩ : ByteArray).size = 1 := fun _ => rfl
      refine Ev.pos (by rw [s1, s2]; decide) (Ev.pos (by rw [ByteArray.size_append, s1, s2]; omega) ?_)
      have := ih (d - 2) (by omega) (i + 2) ((a.extract i (i + 1) ++ ⟨#[turnB 2 a.data.toList[i + 1]]⟩) ++ x) (by omega) (by omega) (by omega) (by rw [ByteArray.size_append, ByteArray.size_append, s1, s2]; omega)
      refine cast (congrArg _ ?_) this
      rw [drop2 hp]
      simp only [planBack, Go.Joins.data_append, e1, List.append_assoc, List.cons_append, List.nil_append, show ∀ c : UInt8, (⟨#[c]⟩ : ByteArray).data.toList = [c] from fun _ => rfl]
    · refine Ev.neg (by omega) (Ev.some_ ?_)
      rw [List.drop_eq_nil_of_le (by omega)]
      simp [planBack]
end Go.Proofs.Ythnheffndhbebaa

namespace Go.Proofs.Ythnheffndhbebaa.Pure
open Go.RowKit Go.Proofs.Ythnheffndhbebaa.P Go.Proofs.YthnheffndhbebaaW.PrintWords Go.Proofs.YthnheffndhbebaaW.PrintLast

theorem FnExactBackPlan : laws_FnExactBackPlan.Pure := by
  intro a _
  refine Ev.rounds (r := true) ?_
  unfold laws_FnExactBackPlan.f
  by_cases h : (a.size : Int) > 1048576
  · exact Ev.pos h (Ev.now _)
  · have hs : a.size ≤ 1048576 := by omega
    have hl := dlen a
    have hsp := spec_IsPlan_ev a hs
    unfold spec_IsPlan.f at hsp
    have hpl : Ev (fun k => spec_myPlan.f k a) (isPlanB a.data.toList) := by
      obtain ⟨K, hK⟩ := hsp
      refine ⟨K, fun k hk => ?_⟩
      obtain ⟨x, hx, hx'⟩ := Option.bind_eq_some_iff.1 (hK k hk)
      exact hx.trans hx'
    by_cases hb : isPlanB a.data.toList = true
    · have hb' := hb
      unfold isPlanB at hb'
      simp only [Bool.and_eq_true, decide_eq_true_eq] at hb'
      obtain ⟨⟨he, h120⟩, hok⟩ := hb'
      have h1 : Ev (fun k => spec_BackPlan.f k a) (⟨(planBack a.data.toList).toArray⟩, true) := by
        unfold spec_BackPlan.f
        refine Ev.bind hpl (Ev.pos hb ?_)
        have := spec_BackPlan_loop a hs (by omega) hok (a.size / 2) ⟨#[]⟩ (by omega) (by show 0 + _ ≤ _; omega)
        rw [show 2 * ((a.size / 2 : Nat) : Int) - 2 = wrap64 ((a.size : Int) - 2) by unfold wrap64; omega, List.take_of_length_le (by omega)] at this
        simpa using this
      have h2 : Ev (fun k => impl_BackPlan.f k a) (⟨(planBack a.data.toList).toArray⟩, true) := by
        unfold impl_BackPlan.f
        refine Ev.bind (impl_IsPlan_ev a hs) (Ev.pos hb ?_)
        have := impl_BackPlan_loop a hs (by omega) hok a.size 0 ⟨#[]⟩ (by omega) (by omega) (by omega) (by show 0 ≤ _; omega)
        simpa using this
      exact Ev.neg h (Ev.bind h1 (Ev.bind h2 (Ev.pos rfl (Ev.neg (by simp) (Ev.now _)))))
    · have h1 : Ev (fun k => spec_BackPlan.f k a) (⟨#[]⟩, false) := by
        unfold spec_BackPlan.f
        exact Ev.bind hpl (Ev.neg hb (Ev.now _))
      have h2 : Ev (fun k => impl_BackPlan.f k a) (⟨#[]⟩, false) := by
        unfold impl_BackPlan.f
        exact Ev.bind (impl_IsPlan_ev a hs) (Ev.neg hb (Ev.now _))
      exact Ev.neg h (Ev.bind h1 (Ev.bind h2 (Ev.pos rfl (Ev.neg (by simp) (Ev.now _)))))

end Go.Proofs.Ythnheffndhbebaa.Pure
