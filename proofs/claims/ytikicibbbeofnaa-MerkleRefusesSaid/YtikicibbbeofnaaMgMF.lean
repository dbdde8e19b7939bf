import Derived.Test.YtikicibbbeofnaaMbMF
import Derived.Test.YtikicibbbeofnaaMF5
namespace Go.Proofs.Ytikicibbbeofnaa.MF
open Go.RowKit Go.Proofs.YtikicibbbeofnaaW.PrintWords Go.Proofs.YtikicibbbeofnaaW.PrintLast Go.Proofs.YtikicibbbeofnaaW.PrintMore
set_option linter.unusedVariables false
theorem grown_l0 : ∀ (d k : Nat) (n : Nat) (l : List Int), l.length + d = n → n ≤ 17592186044415 → d < k → ∃ r, paroleref04_Grown.l0 k (n : Int) l = some r ∧ r.length = n ∧ ∃ e, r = l ++ e
  | 0, k, n, l, h, hn, hk => by
    obtain ⟨k, rfl⟩ : ∃ m, k = m + 1 := ⟨k - 1, by omega⟩
    refine ⟨l, ?_, by omega, [], by simp⟩
    simp only [paroleref04_Grown.l0]
    rw [if_neg (by omega)]
  | d + 1, k, n, l, h, hn, hk => by
    obtain ⟨k, rfl⟩ : ∃ m, k = m + 1 := ⟨k - 1, by omega⟩
    simp only [paroleref04_Grown.l0]
    rw [if_pos (by omega), if_pos (by omega)]
    obtain ⟨r, h1, h2, e, h3⟩ := grown_l0 d k n (l ++ [IntKind.u64.wrap ((IntKind.u64.wrap ((l.length : Int))) * 2654435761)]) (by simp; omega) hn (by omega)
    exact ⟨r, h1, h2, [IntKind.u64.wrap ((IntKind.u64.wrap ((l.length : Int))) * 2654435761)] ++ e, by rw [h3, List.append_assoc]⟩
theorem grown_f (l : List Int) (n k : Nat) (hn : n ≤ 17592186044415) (hl : l.length ≤ 140737488351232) (hk : n < k) : ∃ r, paroleref04_Grown.f k l (n : Int) = some r ∧ r.length = n ∧ ∃ e, r = l.take n ++ e := by
  unfold paroleref04_Grown.f
  rw [Option.bind_some]
  have hm : mn (l.length : Int) (n : Int) = ((min l.length n : Nat) : Int) := by unfold mn; split <;> omega
  rw [hm, if_pos (by omega), if_pos (by omega), Int.toNat_natCast, if_pos (by simp; omega), List.nil_append]
  have ht : (l.take (min l.length n)).length = min l.length n := by rw [List.length_take]; omega
  obtain ⟨r, h1, h2, e, h3⟩ := grown_l0 (n - min l.length n) k n (l.take (min l.length n)) (by omega) hn (by omega)
  refine ⟨r, h1, h2, e, ?_⟩
  rw [h3]
  congr 1
  rcases Nat.le_total l.length n with h | h
  · rw [Nat.min_eq_left h, List.take_of_length_le (Nat.le_refl _), List.take_of_length_le h]
  · rw [Nat.min_eq_right h]
end Go.Proofs.Ytikicibbbeofnaa.MF
