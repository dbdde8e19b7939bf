import Derived.Test.YtikicibbbeofnaaMF1
import Derived.Test.YtikicibbbeofnaaMF3
namespace Go.Proofs.Ytikicibbbeofnaa.MF
open Go.RowKit Go.Proofs.YtikicibbbeofnaaW.PrintWords Go.Proofs.YtikicibbbeofnaaW.PrintLast Go.Proofs.YtikicibbbeofnaaW.PrintMore
set_option linter.unusedVariables false
/-- no rfl lemma for simp: the kernel would open Join -/
theorem joinE (a b : Int) : digest_Join.f a b = some (joinV a b) := by rw [joinV_f]
theorem rd_take_ {l : List Int} {h i : Nat} (hi : i < h) : rd (l.take h) (i : Int) = rd l (i : Int) := by
  unfold rd
  rw [Int.toNat_natCast, List.getD_eq_getElem?_getD, List.getD_eq_getElem?_getD, List.getElem?_take_of_lt hi]
theorem rd_drop_ {l : List Int} {h i : Nat} (hi : h ≤ i) : rd (l.drop h) ((i - h : Nat) : Int) = rd l (i : Int) := by
  unfold rd
  rw [Int.toNat_natCast, Int.toNat_natCast, List.getD_eq_getElem?_getD, List.getD_eq_getElem?_getD, List.getElem?_drop]
  congr 2
  omega
theorem rd_snoc_lt {l : List Int} {x : Int} {j : Nat} (h : j < l.length) : rd (l ++ [x]) (j : Int) = rd l (j : Int) := by
  unfold rd
  rw [Int.toNat_natCast, List.getD_eq_getElem?_getD, List.getD_eq_getElem?_getD, List.getElem?_append_left h]
theorem rd_snoc_at {l : List Int} {x : Int} {j : Nat} (h : j = l.length) : rd (l ++ [x]) (j : Int) = x := by
  subst h
  unfold rd
  rw [Int.toNat_natCast, List.getD_eq_getElem?_getD]
  simp
theorem upN_congr (D D2 : List Bool) (p p2 : List Int) (leaf : Int) : ∀ k : Nat, (∀ j : Nat, j < k → D.reverse.getD j false = D2.reverse.getD j false ∧ rd p (j : Int) = rd p2 (j : Int)) → upN D p leaf k = upN D2 p2 leaf k
  | 0, _ => rfl
  | k + 1, h => by
    simp only [upN]
    rw [(h k (Nat.lt_succ_self k)).1, (h k (Nat.lt_succ_self k)).2, upN_congr D D2 p p2 leaf k fun j hj => h j (Nat.lt_succ_of_lt hj)]
theorem dirs_down : ∀ (f : Nat) (l : List Int) (i : Nat), (downN f l i).length = (dirs f l.length i).length
  | 0, _, _ => rfl
  | f + 1, l, i => by
    simp only [downN, dirs]
    by_cases h : l.length ≤ 1
    · rw [if_pos h, if_pos h]; rfl
    rw [if_neg h, if_neg h]
    have hr := half_range l.length (by omega)
    by_cases hi : i < half l.length
    · rw [if_pos hi, if_pos hi, List.length_cons, List.length_cons, dirs_down f, List.length_take, Nat.min_eq_left (by omega)]
    · rw [if_neg hi, if_neg hi, List.length_cons, List.length_cons, dirs_down f, List.length_drop]
theorem topN_two (l : List Int) (h : 2 ≤ l.length) : topN l.length l = joinV (topN (l.take (half l.length)).length (l.take (half l.length))) (topN (l.drop (half l.length)).length (l.drop (half l.length))) := by
  have hr := half_range l.length h
  obtain ⟨n, hn⟩ : ∃ n, l.length = n + 1 := ⟨l.length - 1, by omega⟩
  have e : topN l.length l = topN (n + 1) l := by rw [hn]
  rw [e]
  simp only [topN]
  rw [if_neg (by omega), if_neg (by omega)]
  rw [topN_more n (l.take (half l.length)).length _ (by rw [List.length_take]; omega) (Nat.le_refl _), topN_more n (l.drop (half l.length)).length _ (by rw [List.length_drop]; omega) (Nat.le_refl _)]
theorem topN_one (l : List Int) (h : l.length = 1) : topN l.length l = joinV 0 (rd l 0) := by
  rw [h]
  simp only [topN]
  rw [if_neg (by omega), if_pos h]
theorem upN_cons (D : List Bool) (d : Bool) (p : List Int) (s leaf : Int) (hm : p.length = D.length) :
    upN (d :: D) (s :: p).reverse leaf (d :: D).length = if d then joinV (upN D p.reverse leaf D.length) s else joinV s (upN D p.reverse leaf D.length) := by
  rw [List.length_cons]
  simp only [upN]
  have e1 : (d :: D).reverse.getD D.length false = d := by
    rw [List.reverse_cons, List.getD_eq_getElem?_getD, List.getElem?_append_right (by simp)]; simp
  have e2 : rd (s :: p).reverse (D.length : Int) = s := by
    rw [List.reverse_cons]; exact rd_snoc_at (by rw [List.length_reverse, hm])
  have e3 : upN (d :: D) (s :: p).reverse leaf D.length = upN D p.reverse leaf D.length := upN_congr _ _ _ _ _ _ fun j hj => by
    refine ⟨?_, ?_⟩
    · rw [List.reverse_cons, List.getD_eq_getElem?_getD, List.getElem?_append_left (by simpa using hj), List.getD_eq_getElem?_getD]
    · rw [List.reverse_cons]; exact rd_snoc_lt (by rw [List.length_reverse, hm]; exact hj)
  rw [e1, e2, e3]
theorem up_down : ∀ (f : Nat) (l : List Int) (i : Nat), i < l.length → l.length ≤ f → upN (dirs f l.length i) (downN f l i).reverse (rd l (i : Int)) (dirs f l.length i).length = topN l.length l
  | 0, l, i, h, g => by omega
  | f + 1, l, i, h, g => by
    have hd := dirs_down (f + 1) l i
    simp only [downN, dirs] at hd ⊢
    by_cases h1 : l.length ≤ 1
    · rw [if_pos h1, if_pos h1, topN_one l (by omega)]
      have : i = 0 := by omega
      subst this
      rfl
    rw [if_neg h1, if_neg h1] at hd
    rw [if_neg h1, if_neg h1]
    have hr := half_range l.length (by omega)
    have ht : (l.take (half l.length)).length = half l.length := by rw [List.length_take]; omega
    have hdr : (l.drop (half l.length)).length = l.length - half l.length := List.length_drop
    by_cases hi : i < half l.length
    · rw [if_pos hi, if_pos hi, List.length_cons, List.length_cons] at hd
      rw [if_pos hi, if_pos hi, upN_cons _ _ _ _ _ (by omega), if_pos rfl, topN_two l (by omega)]
      have ih := up_down f (l.take (half l.length)) i (by omega) (by omega)
      rw [ht, rd_take_ hi] at ih
      rw [ht, ih]
    · rw [if_neg hi, if_neg hi, List.length_cons, List.length_cons] at hd
      rw [if_neg hi, if_neg hi, upN_cons _ _ _ _ _ (by omega), if_neg (by decide), topN_two l (by omega)]
      have ih := up_down f (l.drop (half l.length)) (i - half l.length) (by omega) (by omega)
      rw [hdr, rd_drop_ (by omega)] at ih
      rw [hdr, ih]
theorem dirs_small : ∀ (f n i k : Nat), n ≤ 2 ^ k → (dirs f n i).length ≤ k
  | 0, _, _, _, _ => Nat.zero_le _
  | f + 1, n, i, k, h => by
    simp only [dirs]
    by_cases h1 : n ≤ 1
    · rw [if_pos h1]; exact Nat.zero_le _
    rw [if_neg h1]
    obtain ⟨⟨j, hj⟩, h2, h3⟩ := half_is n (by omega)
    have hjk : j < k := by
      rcases Nat.lt_or_ge j k with h | h
      · exact h
      · have := Nat.pow_le_pow_right (n := 2) (by decide) h; omega
    obtain ⟨k, rfl⟩ : ∃ m, k = m + 1 := ⟨k - 1, by omega⟩
    have hp := Nat.pow_le_pow_right (n := 2) (by decide) (Nat.lt_succ_iff.1 hjk)
    by_cases hi : i < half n
    · rw [if_pos hi, List.length_cons]
      have := dirs_small f (half n) i k (by omega)
      omega
    · rw [if_neg hi, List.length_cons]
      have := dirs_small f (n - half n) (i - half n) k (by omega)
      omega
theorem down_set : ∀ (f : Nat) (l : List Int) (i : Nat) (v : Int), downN f (l.set i v) i = downN f l i
  | 0, _, _, _ => rfl
  | f + 1, l, i, v => by
    simp only [downN]
    rw [List.length_set]
    by_cases h1 : l.length ≤ 1
    · rw [if_pos h1, if_pos h1]
    rw [if_neg h1, if_neg h1]
    by_cases hi : i < half l.length
    · rw [if_pos hi, if_pos hi, List.drop_set_of_lt hi, List.take_set, down_set f]
    · rw [if_neg hi, if_neg hi, List.take_set_of_le (by omega), List.drop_set, if_neg hi, down_set f]
theorem rd_set_ {l : List Int} {i : Nat} {v : Int} (h : i < l.length) : rd (l.set i v) (i : Int) = v := by
  unfold rd
  rw [Int.toNat_natCast, List.getD_eq_getElem?_getD, List.getElem?_set_self h]; rfl
theorem topN_ok (l : List Int) (h : l.length ≤ 1152921504606846976) : merkle_top.f l = some (topN l.length l) := by unfold merkle_top.f; rw [if_pos h]
theorem wrap_len {n : Nat} (h : n ≤ 4096) : IntKind.u64.wrap (n : Int) = (n : Int) := by
  have e : IntKind.u64.wrap (n : Int) = (n : Int) % 18446744073709551616 := by simp [IntKind.wrap, IntKind.bits, IntKind.signed]
  rw [e]; omega
theorem root_f (l : List Int) (h : l.length ≤ 4096) : merkle_Root.f l = some (joinV (l.length : Int) (topN l.length l)) := by
  unfold merkle_Root.f
  rw [topN_ok l (by omega), wrap_len h, Option.bind_some, joinV_f, Option.bind_some]
theorem place_f {n i : Nat} (h : n ≤ 4096) (hi : i < n) : merkle_place.f (n : Int) (i : Int) = some 0 := by
  unfold merkle_place.f
  rw [if_neg (by omega), if_neg (by omega), if_neg (by omega)]
theorem open_f (l : List Int) (i : Nat) (h : l.length ≤ 4096) (hi : i < l.length) : parolelaw04_open.f l (i : Int) = some ((downN l.length l i).reverse, 0) := by
  unfold parolelaw04_open.f merkle_Open.f
  rw [if_neg (by omega), if_neg (by omega), if_neg (by omega), Option.bind_some, Int.toNat_natCast]
theorem rd59_last (l : List S59) (x : S59) : rd_T59 (l ++ [x]) (l.length : Int) = x := by
  unfold rd_T59
  rw [Int.toNat_natCast, List.getD_eq_getElem?_getD]
  simp
theorem check_f (root leaf : Int) (N I : Nat) (p : List Int) (hN : N ≤ 4096) (hI : I < N) (hp : p.length ≤ 17592186044416) :
    parolelaw04_check.f root (N : Int) (I : Int) leaf p = some (if p.length = (dirs N N I).length then (if joinV (N : Int) (upN (dirs N N I) p leaf (dirs N N I).length) = root then 0 else 40) else 40) := by
  have hd := dirs_length N N I
  unfold parolelaw04_check.f merkle_Check.f
  rw [place_f hN hI, Option.bind_some, if_pos rfl]
  unfold merkle_pairs.f
  rw [if_pos ⟨by omega, by omega, by omega, hp⟩, Option.bind_some]
  simp only [Int.toNat_natCast]
  unfold pairsF
  by_cases h1 : p.length < (dirs N N I).length
  · rw [if_pos h1, if_neg (show ¬ p.length = (dirs N N I).length by omega)]; rfl
  rw [if_neg h1]
  by_cases h2 : p.length = (dirs N N I).length
  · rw [if_pos h2, if_pos (by simpa using h2)]
    have hl : ((prsN (dirs N N I) p leaf (dirs N N I).length ++ [(⟨(N : Int), upN (dirs N N I) p leaf (dirs N N I).length⟩ : S59)]).length : Int) - 1 = ((prsN (dirs N N I) p leaf (dirs N N I).length).length : Int) := by
      rw [List.length_append]; simp
    have hw : wrap64 ((prsN (dirs N N I) p leaf (dirs N N I).length).length : Int) = ((prsN (dirs N N I) p leaf (dirs N N I).length).length : Int) := by
      rw [prsN_length]; unfold wrap64; omega
    simp only [hl, hw, rd59_last]
    rw [if_pos (by omega), if_pos (by rw [List.length_append]; simp; omega), joinV_f, Option.bind_some]
    split <;> rfl
  · rw [if_neg h2, if_neg (by simpa using h2)]; rfl
theorem check_own (l : List Int) (i : Nat) (h : l.length ≤ 4096) (hi : i < l.length) :
    parolelaw04_check.f (joinV (l.length : Int) (topN l.length l)) (l.length : Int) (i : Int) (rd l (i : Int)) (downN l.length l i).reverse = some 0 := by
  have hd := dirs_down l.length l i
  have hs := dirs_length l.length l.length i
  rw [check_f _ _ _ _ _ h hi (by rw [List.length_reverse]; omega), if_pos (by rw [List.length_reverse]; exact hd), up_down l.length l i hi (Nat.le_refl _), if_pos rfl]
end Go.Proofs.Ytikicibbbeofnaa.MF
