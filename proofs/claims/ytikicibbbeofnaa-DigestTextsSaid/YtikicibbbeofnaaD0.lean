-- Written by wip/hprint.py (this session's) with the kit's printer and contracts of our own. Not trusted: Lean checks it.
import Derived.Test.YtikicibbbeofnaaProg
import Derived.Below
import Derived.Deep.Draws
import Derived.Deep.AppendLies
import Derived.Maps.AppendAt
import Derived.OwnWalk
import Derived.Laws.BytesArg
import Derived.Laws.MakeOwn
import Derived.Laws.OwnMore
import Derived.Deep.OwnRows
import Derived.Tactics
import Derived.Lib.ConvBytes
import Derived.Laws.Slices
import Derived.WalkKit
import Derived.KernelRfl
import Derived.RowKit3
import Derived.Deep.LoopGhost
import Derived.Deep.QuietTactic
import Derived.BigQuiet
import Derived.WideLaws
import Derived.Deep.DeepCutAuto
import Derived.Deep.CutBlock
import Derived.Deep.RegionHeld3
import Derived.Laws.Rows
import Derived.Lib.AppendStr
import Derived.ArgAppend
import Derived.Laws.IdiomCopy
import Derived.OrdersHeld
import Derived.Laws.BitsLemmas
import Derived.RowKit
import Derived.Laws.CopyOwn
import Derived.Test.YtikicibbbeofnaaWWords
import Derived.Test.YtikicibbbeofnaaWLast
import Derived.Test.YtikicibbbeofnaaWTab
import Derived.Test.YtikicibbbeofnaaWFour
import Derived.Test.YtikicibbbeofnaaWQPut
import Derived.Test.YtikicibbbeofnaaWApart
import Derived.Test.YtikicibbbeofnaaWArr
import Derived.Test.YtikicibbbeofnaaWZeros
import Derived.Test.YtikicibbbeofnaaWFoot
import Derived.Test.YtikicibbbeofnaaWKept
import Derived.Test.YtikicibbbeofnaaWShare
import Derived.Test.YtikicibbbeofnaaWN
import Derived.Test.YtikicibbbeofnaaWFootNe
import Derived.Test.YtikicibbbeofnaaWAt
import Derived.Test.YtikicibbbeofnaaWEqStruct
import Derived.Test.YtikicibbbeofnaaWRepsOne
import Derived.Test.YtikicibbbeofnaaWInv
import Derived.Test.YtikicibbbeofnaaWInvWords
import Derived.Test.YtikicibbbeofnaaWGuard
import Derived.Test.YtikicibbbeofnaaWNEv
import Derived.Test.YtikicibbbeofnaaWMore
namespace Go.Proofs.Ytikicibbbeofnaa.D
open Go.RowKit Go.Proofs.YtikicibbbeofnaaW.PrintWords Go.Proofs.YtikicibbbeofnaaW.PrintLast Go.Proofs.YtikicibbbeofnaaW.PrintMore
attribute [local go_sem] max2_int min2_int max_two min_two max_three min_three max_four min_four   -- for this text's walks alone
set_option linter.unusedVariables false
set_option linter.unusedSimpArgs false



def errW : Option Int → Value
  | none => .nilIface
  | some c => .iface 0 (.int .i64 c)
theorem errW_none : errW none = .nilIface := rfl
theorem errW_some (c : Int) : errW (some c) = .iface 0 (.int .i64 c) := rfl

@[go_sem] theorem fld30_1 (c0 c1 : Value) (W : World) : (Instr.field 30 (.agg #[c0, c1]) 1).run Try.prog W = .ok c1 W := by kernel_rfl
theorem cat_le {s : ByteArray} {i : Int} {m N : Nat} (h2 : decide ((s.extract 0 i.toNat).size + m ≤ N) = true) (h1 : decide (i ≤ (s.size : Int)) = true) : ¬ (N < i.toNat + m) := by
  have h3 := of_decide_eq_true h1
  have h4 := of_decide_eq_true h2
  rw [ByteArray.size_extract] at h4
  omega
theorem cat_le2 {s b : ByteArray} {i j : Int} {N : Nat} (h2 : decide ((s.extract 0 i.toNat ++ b).size + (s.extract j.toNat s.size).size ≤ N) = true) (h1 : decide (i ≤ (s.size : Int)) = true) : ¬ (N < i.toNat + b.size + (s.size - j.toNat)) := by
  have h3 := of_decide_eq_true h1
  have h4 := of_decide_eq_true h2
  rw [ByteArray.size_append, ByteArray.size_extract, ByteArray.size_extract] at h4
  omega
theorem info3 : (Try.prog.info? 3).map (fun i => (i.zero, i.size, i.bytes)) = some (some (.int .i64 0), 1, 8) := by kernel_rfl
theorem info5 : (Try.prog.info? 5).map (fun i => (i.zero, i.size, i.bytes)) = some (some (.int .u8 0), 1, 1) := by kernel_rfl
-- the values' own types
def rd_L4 (xs : List (List Int)) (i : Int) : (List Int) := xs.getD i.toNat ([] : List Int)
theorem at_L4 {w : World} {A : Option Addr} {n : Nat} {xs : List (List Int)} (h : Kd.C (Kd.slice 5 (Kd.int .u8)) w A n xs) (i : Int) (h0 : 0 ≤ i) (h1 : i < n) : ∃ ad A0 c0, A = some ad ∧ w.cell? (ad.add i.toNat) = some (.slice A0 (rd_L4 xs i).length c0) ∧ (rd_L4 xs i).length ≤ c0 ∧ (Kd.int .u8).C w A0 (rd_L4 xs i).length (rd_L4 xs i) := by
  obtain ⟨ad, c, e, _, hK, hc0⟩ := Kd.C_get h ([] : List Int) i h0 h1
  have hc : ∀ j u, c[j]? = some u → w.cell? (ad.add (i.toNat * 1 + j)) = some u := hc0
  obtain ⟨A0, c0, rfl, l0, g0⟩ := hK
  exact ⟨ad, A0, c0, e, by have hq := hc 0 _ rfl; rwa [Nat.mul_one, Nat.add_zero] at hq, l0, g0⟩

end Go.Proofs.Ytikicibbbeofnaa.D
