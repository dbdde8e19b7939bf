-- Written by wip/hprint.py (this session's) with the kit's printer and contracts of our own. Not trusted: Lean checks it.
import Derived.Test.YtikicibbbeofnaaProg
import Derived.Below
import Derived.Deep.Draws
import Derived.Deep.AppendLies
import Derived.Maps.AppendAt
import Derived.OwnWalk
import Derived.Laws.BytesArg
import Derived.Laws.MakeOwn
import Derived.Laws.OwnMore
import Derived.Deep.OwnRows
import Derived.Tactics
import Derived.Lib.ConvBytes
import Derived.Laws.Slices
import Derived.WalkKit
import Derived.KernelRfl
import Derived.RowKit3
import Derived.Deep.LoopGhost
import Derived.Deep.QuietTactic
import Derived.BigQuiet
import Derived.WideLaws
import Derived.Deep.DeepCutAuto
import Derived.Deep.CutBlock
import Derived.Deep.RegionHeld3
import Derived.Laws.Rows
import Derived.Lib.AppendStr
import Derived.ArgAppend
import Derived.Laws.IdiomCopy
import Derived.OrdersHeld
import Derived.Laws.BitsLemmas
import Derived.RowKit
import Derived.Laws.CopyOwn
import Derived.ChangeKeysEq
import Derived.RangeFuncBox
import Derived.RangeFuncLeaves
import Derived.Shelf.Abstract
import Derived.OwnWalkIn
import Derived.TacticsInMore
import Derived.LoopNIn
import Derived.LoopIn
import Derived.Lib.Hide
import Derived.RangeFuncCalls
import Derived.RangeFuncFrom
import Derived.Maps.OwnIn
import Derived.Test.YtikicibbbeofnaaXWords
import Derived.Test.YtikicibbbeofnaaXLast
import Derived.Test.YtikicibbbeofnaaXTab
import Derived.Test.YtikicibbbeofnaaXFour
import Derived.Test.YtikicibbbeofnaaXQPut
import Derived.Test.YtikicibbbeofnaaXApart
import Derived.Test.YtikicibbbeofnaaXArr
import Derived.Test.YtikicibbbeofnaaXZeros
import Derived.Test.YtikicibbbeofnaaXFoot
import Derived.Test.YtikicibbbeofnaaXKept
import Derived.Test.YtikicibbbeofnaaXShare
import Derived.Test.YtikicibbbeofnaaXN
import Derived.Test.YtikicibbbeofnaaXFootNe
import Derived.Test.YtikicibbbeofnaaXAt
import Derived.Test.YtikicibbbeofnaaXEqStruct
import Derived.Test.YtikicibbbeofnaaXRepsOne
import Derived.Test.YtikicibbbeofnaaXInv
import Derived.Test.YtikicibbbeofnaaXInvWords
import Derived.Test.YtikicibbbeofnaaXGuard
import Derived.Test.YtikicibbbeofnaaXNEv
import Derived.Test.YtikicibbbeofnaaXMore
namespace Go.Proofs.Ytikicibbbeofnaa.MR
open Go.RowKit Go.Proofs.YtikicibbbeofnaaW.PrintWords Go.Proofs.YtikicibbbeofnaaW.PrintLast Go.Proofs.YtikicibbbeofnaaW.PrintMore
attribute [local go_sem] max2_int min2_int max_two min_two max_three min_three max_four min_four   -- for this text's walks alone
set_option linter.unusedVariables false
set_option linter.unusedSimpArgs false



def errW : Option Int → Value
  | none => .nilIface
  | some c => .iface 0 (.int .i64 c)
theorem errW_none : errW none = .nilIface := rfl
theorem errW_some (c : Int) : errW (some c) = .iface 0 (.int .i64 c) := rfl

set_option linter.unusedSimpArgs false
@[go_sem] theorem eqArr59 (d : Nat) (w : World) (x0 x1 y0 y1 : Int) : (Op.equalIn (d + 2) 59 (.agg #[.int .u64 x0, .int .u64 x1]) (.agg #[.int .u64 y0, .int .u64 y1])).run Try.prog w = .ok (x0 == y0 && x1 == y1) w := by
  have hs : (Try.prog.info? 22).isSome = true := by kernel_rfl
  obtain ⟨i, hi⟩ := Option.isSome_iff_exists.1 hs
  have hc : Try.prog.cellsOf 22 = 1 := by kernel_rfl
  have p0 : ∀ a0 a1 : Int, (part 22 #[.int .u64 a0, .int .u64 a1] (0 * 1)).run Try.prog w = .ok (.int .u64 a0) w := fun a0 a1 => by go_simp
  have p1 : ∀ a0 a1 : Int, (part 22 #[.int .u64 a0, .int .u64 a1] (1 * 1)).run Try.prog w = .ok (.int .u64 a1) w := fun a0 a1 => by go_simp
  have e : ∀ a0 b0 : Int, (Op.equalIn (d + 1) 22 (.int .u64 a0) (.int .u64 b0)).run Try.prog w = .ok (a0 == b0) w := fun a0 b0 => by go_simp
  rw [run_equalIn_array (P := Try.prog) (w := w) (d + 1) _ _ Try.underlying59 hi, hc]
  simp only [List.range_succ, List.range_zero, List.nil_append, List.cons_append, Op.eqItems, Sem.run_bind, p0, p1, e, Result.andThen_ok]
  cases h1 : (x0 == y0) <;> cases h2 : (x1 == y1) <;> simp [Sem.run_bind, p0, p1, e, h2, -Nat.one_mul, -Nat.mul_one]
@[go_sem] theorem eqArr60 (d : Nat) (w : World) (x0 x1 x2 x3 y0 y1 y2 y3 : Int) : (Op.equalIn (d + 3) 60 (.agg #[.int .u64 x0, .int .u64 x1, .int .u64 x2, .int .u64 x3]) (.agg #[.int .u64 y0, .int .u64 y1, .int .u64 y2, .int .u64 y3])).run Try.prog w = .ok ((x0 == y0 && x1 == y1) && (x2 == y2 && x3 == y3)) w := by
  have hs : (Try.prog.info? 59).isSome = true := by kernel_rfl
  obtain ⟨i, hi⟩ := Option.isSome_iff_exists.1 hs
  have hc : Try.prog.cellsOf 59 = 2 := by kernel_rfl
  have p0 : ∀ a0 a1 a2 a3 : Int, (part 59 #[.int .u64 a0, .int .u64 a1, .int .u64 a2, .int .u64 a3] (0 * 2)).run Try.prog w = .ok (.agg #[.int .u64 a0, .int .u64 a1]) w := fun a0 a1 a2 a3 => by go_simp
  have p1 : ∀ a0 a1 a2 a3 : Int, (part 59 #[.int .u64 a0, .int .u64 a1, .int .u64 a2, .int .u64 a3] (1 * 2)).run Try.prog w = .ok (.agg #[.int .u64 a2, .int .u64 a3]) w := fun a0 a1 a2 a3 => by go_simp
  have e : ∀ a0 a1 b0 b1 : Int, (Op.equalIn (d + 2) 59 (.agg #[.int .u64 a0, .int .u64 a1]) (.agg #[.int .u64 b0, .int .u64 b1])).run Try.prog w = .ok (a0 == b0 && a1 == b1) w := fun a0 a1 b0 b1 => by exact eqArr59 d w a0 a1 b0 b1
  rw [run_equalIn_array (P := Try.prog) (w := w) (d + 2) _ _ Try.underlying60 hi, hc]
  simp only [List.range_succ, List.range_zero, List.nil_append, List.cons_append, Op.eqItems, Sem.run_bind, p0, p1, e, Result.andThen_ok]
  cases h1 : (x0 == y0 && x1 == y1) <;> cases h2 : (x2 == y2 && x3 == y3) <;> simp [Sem.run_bind, p0, p1, e, h2, -Nat.one_mul, -Nat.mul_one]
def bl (n m : Nat) : Array Bool := ((List.range n).map fun i => m.testBit i).toArray
theorem cat_le {s : ByteArray} {i : Int} {m N : Nat} (h2 : decide ((s.extract 0 i.toNat).size + m ≤ N) = true) (h1 : decide (i ≤ (s.size : Int)) = true) : ¬ (N < i.toNat + m) := by
  have h3 := of_decide_eq_true h1
  have h4 := of_decide_eq_true h2
  rw [ByteArray.size_extract] at h4
  omega
theorem cat_le2 {s b : ByteArray} {i j : Int} {N : Nat} (h2 : decide ((s.extract 0 i.toNat ++ b).size + (s.extract j.toNat s.size).size ≤ N) = true) (h1 : decide (i ≤ (s.size : Int)) = true) : ¬ (N < i.toNat + b.size + (s.size - j.toNat)) := by
  have h3 := of_decide_eq_true h1
  have h4 := of_decide_eq_true h2
  rw [ByteArray.size_append, ByteArray.size_extract, ByteArray.size_extract] at h4
  omega
theorem info4 : (Try.prog.info? 4).map (fun i => (i.zero, i.size, i.bytes)) = some (some (.bool false), 1, 1) := by kernel_rfl
theorem info22 : (Try.prog.info? 22).map (fun i => (i.zero, i.size, i.bytes)) = some (some (.int .u64 0), 1, 8) := by kernel_rfl
theorem info59 : (Try.prog.info? 59).map (fun i => (i.zero, i.size, i.bytes)) = some (some (.agg #[(.int .u64 0), (.int .u64 0)]), 2, 16) := by kernel_rfl
-- the values' own types
def rd_L1 (xs : List (List Int)) (i : Int) : (List Int) := xs.getD i.toNat ([] : List Int)
theorem at_L1 {w : World} {A : Option Addr} {n : Nat} {xs : List (List Int)} (h : Kd.C (Kd.slice 22 (Kd.int .u64)) w A n xs) (i : Int) (h0 : 0 ≤ i) (h1 : i < n) : ∃ ad A0 c0, A = some ad ∧ w.cell? (ad.add i.toNat) = some (.slice A0 (rd_L1 xs i).length c0) ∧ (rd_L1 xs i).length ≤ c0 ∧ (Kd.int .u64).C w A0 (rd_L1 xs i).length (rd_L1 xs i) := by
  obtain ⟨ad, c, e, _, hK, hc0⟩ := Kd.C_get h ([] : List Int) i h0 h1
  have hc : ∀ j u, c[j]? = some u → w.cell? (ad.add (i.toNat * 1 + j)) = some u := hc0
  obtain ⟨A0, c0, rfl, l0, g0⟩ := hK
  exact ⟨ad, A0, c0, e, by have hq := hc 0 _ rfl; rwa [Nat.mul_one, Nat.add_zero] at hq, l0, g0⟩

/-! #### struct type 59 -/
structure S59 where
  f0 : Int
  f1 : Int
def z59 : S59 := ⟨(0 : Int), (0 : Int)⟩
def k59 : Kd S59 := Kd.iso (Kd.pair (Kd.int .u64) (Kd.int .u64)) (fun x : S59 => (x.f0, x.f1))
theorem k59_open {w : World} {x : S59} {cs : List Value} (h : k59.K w x cs) : cs = [.int .u64 x.f0, .int .u64 x.f1] := by
  obtain ⟨_, _, rfl, rfl, rfl⟩ := h
  exact rfl
theorem k59_openM {w : World} {base : Nat} {ok : Nat → Prop} {x : S59} {cs : List Value} (h : k59.M w base ok x cs) : cs = [.int .u64 x.f0, .int .u64 x.f1] := by
  obtain ⟨_, _, rfl, rfl, rfl⟩ := h
  exact rfl
theorem k59_mk (w : World) (x : S59)  : k59.K w x [.int .u64 x.f0, .int .u64 x.f1] := ⟨[.int .u64 x.f0], [.int .u64 x.f1], rfl, rfl, rfl⟩
theorem k59_mkM (w : World) (base : Nat) (ok : Nat → Prop) (x : S59)  : k59.M w base ok x [.int .u64 x.f0, .int .u64 x.f1] := ⟨[.int .u64 x.f0], [.int .u64 x.f1], rfl, rfl, rfl⟩
def rd_T59 (xs : List S59) (i : Int) : S59 := xs.getD i.toNat z59
theorem at_T59 {w : World} {A : Option Addr} {n : Nat} {xs : List S59} (h : Kd.C k59 w A n xs) (i : Int) (h0 : 0 ≤ i) (h1 : i < n) : ∃ ad , A = some ad ∧ w.cell? (ad.add (i.toNat * 2)) = some (.int .u64 (rd_T59 xs i).f0) ∧ w.cell? ⟨(ad.add (i.toNat * 2)).block, (ad.add (i.toNat * 2)).off + 1, none⟩ = some (.int .u64 (rd_T59 xs i).f1) := by
  obtain ⟨ad, c, e, _, hK, hc0⟩ := Kd.C_get h z59 i h0 h1
  have hc : ∀ j u, c[j]? = some u → w.cell? (ad.add (i.toNat * 2 + j)) = some u := hc0
  obtain rfl := k59_open hK
  exact ⟨ad, e, hc 0 _ rfl, by rw [← add_field _ _ 1 (by omega)]; exact hc 1 _ rfl⟩

def rd_L4 (xs : List (List S59)) (i : Int) : (List S59) := xs.getD i.toNat ([] : List S59)
theorem at_L4 {w : World} {A : Option Addr} {n : Nat} {xs : List (List S59)} (h : Kd.C (Kd.slice 59 k59) w A n xs) (i : Int) (h0 : 0 ≤ i) (h1 : i < n) : ∃ ad A0 c0, A = some ad ∧ w.cell? (ad.add i.toNat) = some (.slice A0 (rd_L4 xs i).length c0) ∧ (rd_L4 xs i).length ≤ c0 ∧ k59.C w A0 (rd_L4 xs i).length (rd_L4 xs i) := by
  obtain ⟨ad, c, e, _, hK, hc0⟩ := Kd.C_get h ([] : List S59) i h0 h1
  have hc : ∀ j u, c[j]? = some u → w.cell? (ad.add (i.toNat * 1 + j)) = some u := hc0
  obtain ⟨A0, c0, rfl, l0, g0⟩ := hK
  exact ⟨ad, A0, c0, e, by have hq := hc 0 _ rfl; rwa [Nat.mul_one, Nat.add_zero] at hq, l0, g0⟩

end Go.Proofs.Ytikicibbbeofnaa.MR
