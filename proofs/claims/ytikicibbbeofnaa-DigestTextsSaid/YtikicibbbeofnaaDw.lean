/- The digest of a list of words, as the printed function answers it. -/
import Derived.Test.YtikicibbbeofnaaDh
namespace Go.Proofs.Ytikicibbbeofnaa.Dh
open Go.RowKit Go.Proofs.YtikicibbbeofnaaW.PrintWords Go.Proofs.YtikicibbbeofnaaW.PrintLast Go.Proofs.Ytikicibbbeofnaa.D Go.Proofs.Ytikicibbbeofnaa.Dg
def wordsFrom (h : W) (l : List Int) : W := l.foldl (fun h x => stepW h (F x)) h
def wordsW (l : List Int) : W := wordsFrom (stepW (F 2611923443488327891) (F l.length)) l
theorem step_wrap (h : W) (n : Int) : digest_Step.f (T h) (IntKind.u64.wrap n) = some (T (stepW h (F n))) := by
  rw [step_f, wrap_T, F_T, F_T]
theorem rd_drop (l : List Int) (i : Nat) (h : i < l.length) : l.drop i = rd l i :: l.drop (i + 1) := by
  rw [List.drop_eq_getElem_cons h]
  unfold rd
  simp [h]
theorem wrap_up (i n : Nat) (h : i < n) (hn : n ≤ 9223372036854775807) : wrap64 ((i : Int) + 1) = ((i + 1 : Nat) : Int) := by
  unfold wrap64; omega
theorem words_l0 (l : List Int) (hl : l.length ≤ 9223372036854775807) (d : Nat) : ∀ (k i : Nat) (h : W), l.length - i = d → i ≤ l.length → d < k →
    digest_Words.l0 k (T h) l (l.length : Int) i = some (T (wordsFrom h (l.drop i))) := by
  induction d with
  | zero =>
    intro k i h hd hi hk
    obtain ⟨k, rfl⟩ : ∃ m, k = m + 1 := ⟨k - 1, by omega⟩
    simp only [digest_Words.l0]
    rw [if_neg (by omega), List.drop_of_length_le (by omega)]; rfl
  | succ d ih =>
    intro k i h hd hi hk
    obtain ⟨k, rfl⟩ : ∃ m, k = m + 1 := ⟨k - 1, by omega⟩
    simp only [digest_Words.l0]
    rw [if_pos (by omega), if_pos (by omega), if_pos (by omega), step_wrap, Option.bind_some, wrap_up i l.length (by omega) hl, ih k (i + 1) _ (by omega) (by omega) (by omega), rd_drop l i (by omega)]
    rfl
theorem words_f (l : List Int) (hl : l.length ≤ 9223372036854775807) (k : Nat) (hk : l.length < k) : digest_Words.f k l = some (T (wordsW l)) := by
  unfold digest_Words.f
  rw [step_f, wrap_T, F_T, Option.bind_some]
  have := words_l0 l hl l.length k 0 (stepW (F 2611923443488327891) (F l.length)) (by omega) (by omega) hk
  rw [List.drop_zero] at this; exact this
theorem wordsFrom_append (h : W) (l m : List Int) : wordsFrom h (l ++ m) = wordsFrom (wordsFrom h l) m := by
  unfold wordsFrom; rw [List.foldl_append]
theorem wordsFrom_inj (l : List Int) : ∀ (g h : W), (wordsFrom g l = wordsFrom h l ↔ g = h) := by
  induction l with
  | nil => intro g h; exact Iff.rfl
  | cons a l ih => intro g h; exact (ih _ _).trans (stepW_inj_left _ _ _)
end Go.Proofs.Ytikicibbbeofnaa.Dh
