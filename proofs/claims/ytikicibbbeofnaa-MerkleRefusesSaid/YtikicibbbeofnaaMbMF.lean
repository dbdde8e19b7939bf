import Derived.Test.YtikicibbbeofnaaMaMF
import Derived.Test.YtikicibbbeofnaaMF4
import Derived.Test.YtikicibbbeofnaaMF3
namespace Go.Proofs.Ytikicibbbeofnaa.MF
open Go.RowKit Go.Proofs.YtikicibbbeofnaaW.PrintWords Go.Proofs.YtikicibbbeofnaaW.PrintLast Go.Proofs.YtikicibbbeofnaaW.PrintMore
set_option linter.unusedVariables false
theorem ex4_true : parolelaw04_examples.f 30 = some true := by decide +kernel
theorem ex4_at : ∀ k, parolelaw04_examples.f (k + 30) = some true
  | 0 => ex4_true
  | k + 1 => parolelaw04_examples.mono (k + 30) true (ex4_at k)
theorem wrap64_of {n : Int} (h0 : -9223372036854775808 ≤ n) (h1 : n < 9223372036854775808) : wrap64 n = n := by unfold wrap64; omega
theorem wf_u16 {a : Int} (h : (Lit.int .u16 a).wf = true) : 0 ≤ a ∧ a < 65536 := by
  simp [Lit.wf, IntKind.min, IntKind.max, IntKind.bits, IntKind.signed] at h; omega
theorem wf_u8 {a : Int} (h : (Lit.int .u8 a).wf = true) : 0 ≤ a ∧ a < 256 := by
  simp [Lit.wf, IntKind.min, IntKind.max, IntKind.bits, IntKind.signed] at h; omega
theorem tmod_nat (a b : Nat) : Int.tmod (a : Int) (b : Int) = ((a % b : Nat) : Int) := by
  rw [Int.tmod_eq_emod_of_nonneg (by omega)]; rfl
theorem same_l0 : ∀ (d k : Nat) (l : List Int) (i : Nat), i + d = l.length → l.length ≤ 17592186044416 → d < k → paroleref04_Same.l0 k l l (i : Int) = some true
  | 0, k, l, i, h, hl, hk => by
    obtain ⟨k, rfl⟩ : ∃ m, k = m + 1 := ⟨k - 1, by omega⟩
    simp only [paroleref04_Same.l0]
    rw [if_neg (by omega)]
  | d + 1, k, l, i, h, hl, hk => by
    obtain ⟨k, rfl⟩ : ∃ m, k = m + 1 := ⟨k - 1, by omega⟩
    simp only [paroleref04_Same.l0]
    rw [if_pos (by omega), if_pos (by omega), if_pos (by omega), if_pos trivial, wrap64_of (by omega) (by omega)]
    exact same_l0 d k l (i + 1) (by omega) hl (by omega)
theorem same_self (l : List Int) (k : Nat) (hl : l.length ≤ 17592186044416) (hk : l.length < k) : paroleref04_Same.f k l l = some true := by
  unfold paroleref04_Same.f
  rw [if_pos rfl]
  exact same_l0 l.length k l 0 (by omega) hl hk
end Go.Proofs.Ytikicibbbeofnaa.MF
