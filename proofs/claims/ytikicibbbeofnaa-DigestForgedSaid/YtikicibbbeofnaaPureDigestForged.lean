/- Behind each list of at most 60 words there is one word that gives any wanted digest: the statement DigestForged, for all inputs. -/
import Derived.Test.YtikicibbbeofnaaDw
import Derived.Test.YtikicibbbeofnaaD5
namespace Go.Proofs.Ytikicibbbeofnaa.Pure
open Go.RowKit Go.Proofs.YtikicibbbeofnaaW.PrintWords Go.Proofs.YtikicibbbeofnaaW.PrintLast Go.Proofs.Ytikicibbbeofnaa.D Go.Proofs.Ytikicibbbeofnaa.Dg Go.Proofs.Ytikicibbbeofnaa.Dh
theorem F_wrap64 (n : Int) : F (wrap64 n) = F n := by
  apply T_inj
  rw [T_F, T_F]
  unfold wrap64
  omega
theorem forged_loop (l : List Int) (x : W) (hl : l.length ≤ 60) (d : Nat) : ∀ (k i : Nat), l.length - i = d → i ≤ l.length → d + 100 ≤ k →
    parolelaw03_DigestForged.l0 k l (T x) true (T (wordsFrom (stepW (F 2611923443488327891) (F (l.length + 1))) (l.take i))) i = some true := by
  induction d with
  | zero =>
    intro k i hd hi hk
    obtain ⟨k, rfl⟩ : ∃ m, k = m + 1 := ⟨k - 1, by omega⟩
    obtain rfl : i = l.length := by omega
    simp only [parolelaw03_DigestForged.l0]
    have hb : digest_Back.f k (T (wordsFrom (stepW (F 2611923443488327891) (F (l.length + 1))) l)) (T x) = some (T (backW (wordsFrom (stepW (F 2611923443488327891) (F (l.length + 1))) l) x)) := by
      have := back_fT (T (wordsFrom (stepW (F 2611923443488327891) (F (l.length + 1))) l)) x
      rw [F_T] at this
      exact at_rounds (digest_Back.mono _ _) (show 99 ≤ k by omega) this
    rw [if_neg (by omega), List.take_of_length_le (Nat.le_refl _), hb, Option.bind_some, Option.bind_some, if_pos (by simp; omega), Option.bind_some, if_pos (by simp; omega), List.nil_append,
      words_f _ (by simp; omega) k (by simp; omega), Option.bind_some, if_pos]
    unfold wordsW
    rw [wordsFrom_append]
    simp only [List.length_append, List.length_cons, List.length_nil, Nat.zero_add]
    have e : (((l.length + 1 : Nat)) : Int) = (l.length : Int) + 1 := by omega
    rw [e]
    show T (stepW _ (F (wrap64 _))) = _
    rw [F_wrap64, F_T, stepW_backW]
  | succ d ih =>
    intro k i hd hi hk
    obtain ⟨k, rfl⟩ : ∃ m, k = m + 1 := ⟨k - 1, by omega⟩
    simp only [parolelaw03_DigestForged.l0]
    have hlt : i < l.length := by omega
    have ht : l.take (i + 1) = l.take i ++ [rd l i] := by
      rw [List.take_succ_eq_append_getElem hlt]
      unfold rd
      simp [hlt]
    rw [if_pos (by omega), if_pos (by omega), step_wrap, Option.bind_some, wrap_up i l.length hlt (by omega)]
    have := ih k (i + 1) (by omega) (by omega) (by omega)
    rw [ht, wordsFrom_append] at this
    exact this
theorem DigestForged : parolelaw03_DigestForged.Pure := by
  intro l x _ _ _ hx
  obtain ⟨x0, x1⟩ := wf_u64 hx
  refine ⟨200, ?_⟩
  unfold parolelaw03_DigestForged.f
  rw [at_rounds parolelaw03_examples.mono (show 99 ≤ 200 by omega) examples_true, Option.bind_some, if_pos rfl]
  by_cases h : (l.length : Int) > 60
  · rw [if_pos h]
  · rw [if_neg h, step_f, Option.bind_some, wrap_T, F_T, F_wrap64]
    have := forged_loop l (F x) (by omega) l.length 200 0 (by omega) (by omega) (by omega)
    rw [T_F_self x0 x1] at this
    exact this
end Go.Proofs.Ytikicibbbeofnaa.Pure
