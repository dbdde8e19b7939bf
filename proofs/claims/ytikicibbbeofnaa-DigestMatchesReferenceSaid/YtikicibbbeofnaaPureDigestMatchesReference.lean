/- Steps, digests of lists of at most 60 words, of at most 200 bytes and of pairs, texts, and what is parsed of any text of at most 200 bytes, are as in the reference: the statement DigestMatchesReference, for all inputs. -/
import Derived.Test.YtikicibbbeofnaaDz
namespace Go.Proofs.Ytikicibbbeofnaa.Pure
open Go.RowKit Go.Proofs.YtikicibbbeofnaaW.PrintWords Go.Proofs.YtikicibbbeofnaaW.PrintLast Go.Proofs.Ytikicibbbeofnaa.D Go.Proofs.Ytikicibbbeofnaa.Dg Go.Proofs.Ytikicibbbeofnaa.Dh
theorem DigestMatchesReference : parolelaw03_DigestMatchesReference.Pure := by
  intro l b s _ _ hl _ _ hb _
  refine ⟨3000, ?_⟩
  unfold parolelaw03_DigestMatchesReference.f
  rw [at_rounds parolelaw03_examples.mono (show 99 ≤ 3000 by omega) examples_true, Option.bind_some, if_pos rfl]
  by_cases h1 : (l.length : Int) > 60
  · rw [if_pos h1, parolelaw03_DigestMatchesReference.j0, if_pos rfl]
  by_cases h2 : (b.length : Int) > 200
  · rw [if_neg h1, if_pos h2, parolelaw03_DigestMatchesReference.j0, if_pos rfl]
  by_cases h3 : (s.size : Int) > 200
  · rw [if_neg h1, if_neg h2, decide_eq_true h3, parolelaw03_DigestMatchesReference.j0, if_pos rfl]
  rw [if_neg h1, if_neg h2, decide_eq_false h3, parolelaw03_DigestMatchesReference.j0, if_neg (by simp)]
  rw [words_f l (by omega) 2999 (by omega), Option.bind_some, bytes_f, Option.bind_some, rwords_f l (by omega) 2999 (by omega), Option.bind_some, if_pos rfl, rbytes_f b (by omega) 2999 (by omega), Option.bind_some, if_pos rfl,
    join_f, Option.bind_some, rjoin_f, Option.bind_some, if_pos rfl, step_f, Option.bind_some, rstep_f, Option.bind_some, if_pos rfl,
    at_rounds (digest_Back.mono _ _) (show 99 ≤ 2999 by omega) (back_fT _ _), Option.bind_some, rback_f _ _ 2999 (by omega), Option.bind_some]
  have hx := T_range (wordsW l)
  obtain ⟨x, hx'⟩ := Int.eq_ofNat_of_zero_le hx.1
  have hxl : x < 18446744073709551616 := by omega
  rw [F_T, show (T (backW (wordsW l) (bytesW b.length (initW b.length) b)) != T (backW (wordsW l) (bytesW b.length (initW b.length) b))) = false from by simp, hx',
    parolelaw03_DigestMatchesReference.j1, if_neg (by simp), text_f x hxl, Option.bind_some, rtext_f x hxl 2998 (by omega), Option.bind_some, if_pos rfl,
    parsed_f s 2998 (by omega), Option.bind_some, rparse_f s (by omega) 2998 (by omega), Option.bind_some, parse_agree, if_pos (by simp)]
end Go.Proofs.Ytikicibbbeofnaa.Pure
