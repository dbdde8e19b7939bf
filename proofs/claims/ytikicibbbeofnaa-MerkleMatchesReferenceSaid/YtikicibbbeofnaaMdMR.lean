import Derived.Test.YtikicibbbeofnaaMcMR
import Derived.Test.YtikicibbbeofnaaMR6
import Derived.Test.YtikicibbbeofnaaMR6
import Derived.Test.YtikicibbbeofnaaMR8
namespace Go.Proofs.Ytikicibbbeofnaa.MR
open Go.RowKit Go.Proofs.YtikicibbbeofnaaW.PrintWords Go.Proofs.YtikicibbbeofnaaW.PrintLast Go.Proofs.YtikicibbbeofnaaW.PrintMore
set_option linter.unusedVariables false
theorem rjoin0 (a b : Int) : paroleref03_Join.f a b = digest_Join.f a b := rfl
theorem rjoinE (a b : Int) : paroleref03_Join.f a b = some (joinV a b) := by rw [rjoin0, joinV_f]
theorem rhalf_l0 (n : Nat) (h2 : 2 ≤ n) (hn : n ≤ 4096) : ∀ (d k j : Nat), 2 ^ j < n → n ≤ d + 2 ^ j → d < k → paroleref04_half.l0 k (n : Int) ((2 ^ j : Nat) : Int) = some (half n : Int)
  | 0, k, j, h, g, hk => by omega
  | d + 1, k, j, h, g, hk => by
    obtain ⟨k, rfl⟩ : ∃ m, k = m + 1 := ⟨k - 1, by omega⟩
    by_cases hc : 2 * 2 ^ j < n
    · have hp : 1 ≤ 2 ^ j := Nat.one_le_two_pow
      have e : 2 * 2 ^ j = 2 ^ (j + 1) := by rw [Nat.pow_succ]; omega
      have ih := rhalf_l0 n h2 hn d k (j + 1) (by omega) (by omega) (by omega)
      have hw : wrap64 (2 * ((2 ^ j : Nat) : Int)) = ((2 ^ (j + 1) : Nat) : Int) := by rw [wrap64_of (by omega) (by omega)]; omega
      generalize 2 ^ j = x at *
      generalize 2 ^ (j + 1) = y at *
      simp only [paroleref04_half.l0]
      rw [hw, if_pos (by omega)]
      exact ih
    · have e : 2 ^ j = half n := (IsHalf.unique (half_is n h2) ⟨⟨j, rfl⟩, h, by omega⟩).symm
      have hw : wrap64 (2 * ((2 ^ j : Nat) : Int)) = ((2 * 2 ^ j : Nat) : Int) := by rw [wrap64_of (by omega) (by omega)]; omega
      simp only [paroleref04_half.l0]
      rw [hw, if_neg (by omega), e]
theorem rhalf_f (n k : Nat) (h2 : 2 ≤ n) (hn : n ≤ 4096) (hk : n < k) : paroleref04_half.f k (n : Int) = some (half n : Int) :=
  rhalf_l0 n h2 hn n k 0 (by rw [Nat.pow_zero]; omega) (by omega) hk
theorem rtop_f : ∀ (f : Nat) (l : List Int) (k : Nat), l.length ≤ f → l.length ≤ 4096 → 4098 + f ≤ k → paroleref04_Top.f k l = some (topN l.length l)
  | f, l, k, h, hn, hk => by
    obtain ⟨k, rfl⟩ : ∃ m, k = m + 1 := ⟨k - 1, by omega⟩
    simp only [paroleref04_Top.f]
    by_cases h0 : l.length = 0
    · rw [if_pos (by omega), h0]; rfl
    by_cases h1 : l.length = 1
    · rw [if_neg (by omega), if_pos (by omega), if_pos (by omega), rjoinE, Option.bind_some, topN_one l h1]
    have hr := half_range l.length (by omega)
    have ht : (l.take (half l.length)).length = half l.length := by rw [List.length_take]; omega
    have hd : (l.drop (half l.length)).length = l.length - half l.length := List.length_drop
    match f, h, hk with
    | 0, h, hk => omega
    | f + 1, h, hk =>
      rw [if_neg (by omega), if_neg (by omega), rhalf_f _ _ (by omega) hn (by omega), Option.bind_some, if_pos (by omega), if_pos (by omega), Int.toNat_natCast,
        rtop_f f (l.take (half l.length)) k (by omega) (by omega) (by omega), Option.bind_some, rtop_f f (l.drop (half l.length)) k (by omega) (by omega) (by omega), Option.bind_some, rjoinE, Option.bind_some, topN_two l (by omega)]
theorem rroot_f (l : List Int) (k : Nat) (hn : l.length ≤ 4096) (hk : 8200 ≤ k) : paroleref04_Root.f k l = merkle_Root.f l := by
  unfold paroleref04_Root.f
  rw [rtop_f l.length l k (Nat.le_refl _) hn (by omega), Option.bind_some, rjoinE, Option.bind_some, wrap_len hn, root_f l hn]
theorem rpath_f : ∀ (f : Nat) (l : List Int) (i k : Nat), i < l.length → l.length ≤ f → l.length ≤ 4096 → f ≤ 4096 → 8200 + f ≤ k → paroleref04_path.f k l (i : Int) = some (downN f l i).reverse ∧ (downN f l i).length ≤ f
  | 0, l, i, k, hi, h, hn, hf, hk => by omega
  | f + 1, l, i, k, hi, h, hn, hf, hk => by
    obtain ⟨k, rfl⟩ : ∃ m, k = m + 1 := ⟨k - 1, by omega⟩
    simp only [paroleref04_path.f, downN]
    by_cases h1 : l.length = 1
    · rw [if_pos (by omega), if_pos (by omega)]; exact ⟨rfl, Nat.zero_le _⟩
    have hr := half_range l.length (by omega)
    have ht : (l.take (half l.length)).length = half l.length := by rw [List.length_take]; omega
    have hd : (l.drop (half l.length)).length = l.length - half l.length := List.length_drop
    rw [if_neg (by omega), if_neg (by omega), rhalf_f _ _ (by omega) hn (by omega), Option.bind_some]
    by_cases hlt : i < half l.length
    · obtain ⟨e1, e2⟩ := rpath_f f (l.take (half l.length)) i k (by omega) (by omega) (by omega) (by omega) (by omega)
      rw [if_pos (by omega), if_pos hlt, if_pos (by omega), if_pos (by omega), Int.toNat_natCast, e1, Option.bind_some, rtop_f f (l.drop (half l.length)) k (by omega) (by omega) (by omega), Option.bind_some, if_pos (by rw [List.length_reverse]; omega), List.reverse_cons]
      exact ⟨rfl, by rw [List.length_cons]; omega⟩
    · obtain ⟨e1, e2⟩ := rpath_f f (l.drop (half l.length)) (i - half l.length) k (by omega) (by omega) (by omega) (by omega) (by omega)
      have hw : wrap64 ((i : Int) - (half l.length : Int)) = ((i - half l.length : Nat) : Int) := by rw [wrap64_of (by omega) (by omega)]; omega
      rw [if_neg (by omega), if_neg hlt, if_pos (by omega), if_pos (by omega), Int.toNat_natCast, hw, e1, Option.bind_some, rtop_f f (l.take (half l.length)) k (by omega) (by omega) (by omega), Option.bind_some, if_pos (by rw [List.length_reverse]; omega), List.reverse_cons]
      exact ⟨rfl, by rw [List.length_cons]; omega⟩
theorem ropen_f (l : List Int) (i : Int) (k : Nat) (hn : l.length ≤ 4096) (hk : 12300 ≤ k) : paroleref04_Open.f k l i = parolelaw04_open.f l i := by
  unfold paroleref04_Open.f parolelaw04_open.f merkle_Open.f
  have hb : ¬ (l.length : Int) > 4096 := by omega
  rw [if_neg hb, if_neg hb]
  by_cases h0 : i < 0
  · rw [if_pos h0, if_pos h0]; rfl
  rw [if_neg h0, if_neg h0]
  by_cases h1 : i ≥ (l.length : Int)
  · rw [if_pos h1, if_pos h1]; rfl
  rw [if_neg h1, if_neg h1]
  obtain ⟨i, rfl⟩ := Int.eq_ofNat_of_zero_le (show 0 ≤ i by omega)
  rw [(rpath_f l.length l i k (by omega) (Nat.le_refl _) hn hn (by omega)).1]; rfl
theorem rsteps_f : ∀ (f n i k : Nat), i < n → n ≤ f → n ≤ 4096 → f ≤ 4096 → 4098 + f ≤ k → paroleref04_Steps.f k (n : Int) (i : Int) = some (dirs f n i).reverse
  | 0, n, i, k, hi, h, hn, hf, hk => by omega
  | f + 1, n, i, k, hi, h, hn, hf, hk => by
    obtain ⟨k, rfl⟩ : ∃ m, k = m + 1 := ⟨k - 1, by omega⟩
    simp only [paroleref04_Steps.f, dirs]
    by_cases h1 : n ≤ 1
    · rw [if_pos (by omega), if_pos h1]; rfl
    have hr := half_range n (by omega)
    rw [if_neg (by omega), if_neg h1, rhalf_f _ _ (by omega) hn (by omega), Option.bind_some]
    by_cases hlt : i < half n
    · have hl := dirs_length f (half n) i
      rw [if_pos (by omega), if_pos hlt, rsteps_f f (half n) i k hlt (by omega) (by omega) (by omega) (by omega), Option.bind_some, if_pos (by rw [List.length_reverse]; omega), List.reverse_cons]
    · have hl := dirs_length f (n - half n) (i - half n)
      have hw : wrap64 ((n : Int) - (half n : Int)) = ((n - half n : Nat) : Int) := by rw [wrap64_of (by omega) (by omega)]; omega
      have hw2 : wrap64 ((i : Int) - (half n : Int)) = ((i - half n : Nat) : Int) := by rw [wrap64_of (by omega) (by omega)]; omega
      rw [if_neg (by omega), if_neg hlt, hw, hw2, rsteps_f f (n - half n) (i - half n) k (by omega) (by omega) (by omega) (by omega) (by omega), Option.bind_some, if_pos (by rw [List.length_reverse]; omega), List.reverse_cons]
theorem rpairs_l0 (N I : Nat) (leaf : Int) (p : List Int) (hN : N ≤ 4096) (hp : p.length = (dirs N N I).length) : ∀ (d k j : Nat), j + d = (dirs N N I).length → d < k →
    paroleref04_Pairs.l0 k (N : Int) (prsN (dirs N N I) p leaf j) (upN (dirs N N I) p leaf j) (dirs N N I).reverse (j : Int) leaf p = some (allP N I leaf p)
  | d, k, j, h, hk => by
    obtain ⟨k, rfl⟩ : ∃ m, k = m + 1 := ⟨k - 1, by omega⟩
    have hl := dirs_length N N I
    have hpl := prsN_length (dirs N N I) p leaf j
    simp only [paroleref04_Pairs.l0]
    rw [List.length_reverse]
    match d, h, hk with
    | 0, h, hk =>
      rw [if_neg (by omega), if_pos (by omega), wrap_len hN]
      have : j = (dirs N N I).length := by omega
      subst this
      rfl
    | d + 1, h, hk =>
      have hw : wrap64 ((j : Int) + 1) = ((j + 1 : Nat) : Int) := by rw [wrap64_of (by omega) (by omega)]; omega
      have ih := rpairs_l0 N I leaf p hN hp d k (j + 1) (by omega) (by omega)
      have hrd : rdOf false (dirs N N I).reverse (j : Int) = (dirs N N I).reverse.getD j false := by unfold rdOf; rw [Int.toNat_natCast]
      rw [prsN_succ] at ih
      unfold prN at ih
      simp only [upN] at ih
      rw [if_pos (by omega), if_pos (by omega), if_pos (by omega), hw, hrd]
      cases hd : (dirs N N I).reverse.getD j false with
      | true =>
        rw [hd] at ih
        rw [if_pos rfl, if_pos (by omega), rjoinE, Option.bind_some]
        rw [if_pos rfl, if_pos rfl] at ih
        exact ih
      | false =>
        rw [hd] at ih
        rw [if_neg (by decide), if_pos (by omega), rjoinE, Option.bind_some]
        rw [if_neg (by decide), if_neg (by decide)] at ih
        exact ih
theorem rpairs_f (N I k : Nat) (leaf : Int) (p : List Int) (hN : N ≤ 4096) (hI : I < N) (hp : p.length = (dirs N N I).length) (hk : 8200 ≤ k) : paroleref04_Pairs.f k (N : Int) (I : Int) leaf p = some (allP N I leaf p) := by
  have hl := dirs_length N N I
  unfold paroleref04_Pairs.f
  rw [rjoinE, Option.bind_some, rsteps_f N N I k hI (Nat.le_refl _) hN hN (by omega), Option.bind_some]
  exact rpairs_l0 N I leaf p hN hp (dirs N N I).length k 0 (by omega) (by omega)
theorem rplace (a b : Int) : paroleref04_Place.f a b = merkle_place.f a b := rfl
theorem place_ok {a b : Int} (h : merkle_place.f a b = some 0) : ∃ N I : Nat, a = (N : Int) ∧ b = (I : Int) ∧ N ≤ 4096 ∧ I < N := by
  unfold merkle_place.f at h
  by_cases h1 : a > 4096
  · rw [if_pos h1] at h; cases h
  rw [if_neg h1] at h
  by_cases h2 : b < 0
  · rw [if_pos h2] at h; cases h
  rw [if_neg h2] at h
  by_cases h3 : b ≥ a
  · rw [if_pos h3] at h; cases h
  exact ⟨a.toNat, b.toNat, by omega, by omega, by omega, by omega⟩
theorem place_some (a b : Int) : ∃ e, merkle_place.f a b = some e := by
  unfold merkle_place.f
  split
  · exact ⟨_, rfl⟩
  · split
    · exact ⟨_, rfl⟩
    · split <;> exact ⟨_, rfl⟩
theorem rcheck_f (root n i leaf : Int) (p : List Int) (k : Nat) (hp : p.length ≤ 4096) (hk : 8200 ≤ k) : paroleref04_Check.f k root n i leaf p = parolelaw04_check.f root n i leaf p := by
  obtain ⟨e, he⟩ := place_some n i
  by_cases h0 : e = 0
  · subst h0
    obtain ⟨N, I, rfl, rfl, hN, hI⟩ := place_ok he
    have hl := dirs_length N N I
    rw [check_f _ _ _ _ _ hN hI (by omega)]
    unfold paroleref04_Check.f
    rw [rplace, he, Option.bind_some, if_pos rfl, rsteps_f N N I k hI (Nat.le_refl _) hN hN (by omega), Option.bind_some, List.length_reverse]
    by_cases hpl : p.length = (dirs N N I).length
    · rw [if_pos (by omega), if_pos hpl, rpairs_f N I k leaf p hN hI hpl hk, Option.bind_some]
      have hal := allP_length N I leaf p
      have hw : wrap64 (((allP N I leaf p).length : Int) - 1) = (((dirs N N I).length + 1 : Nat) : Int) := by rw [wrap64_of (by omega) (by omega)]; omega
      rw [hw, if_pos (by omega), if_pos (by omega), allP_last, rjoinE, Option.bind_some]
      split <;> rfl
    · rw [if_neg (by omega), if_neg hpl]
  · unfold paroleref04_Check.f parolelaw04_check.f merkle_Check.f
    rw [rplace, he, Option.bind_some, Option.bind_some, if_neg h0, if_neg h0, Option.bind_some]
theorem collide_both (A B : List S59) (hl : A.length = B.length) (hm : A.length ≤ 17592186044416) : ∀ (d k m i : Nat), i + d = A.length → 2 * d + 2 ≤ k → d < m →
    ∃ r, merkle_Collide.l0 k A true B true (i : Int) = some r ∧ paroleref04_Collide.l0 m A B (i : Int) = some r := by
  intro d
  induction d with
  | zero =>
    intro k m i h hk hm2
    obtain ⟨k, rfl⟩ : ∃ m, k = m + 2 := ⟨k - 2, by omega⟩
    obtain ⟨m, rfl⟩ : ∃ x, m = x + 1 := ⟨m - 1, by omega⟩
    refine ⟨(0, 0, 0, 0, false), ?_, ?_⟩
    · simp only [merkle_Collide.l0, merkle_Collide.j1]
      rw [if_pos trivial, if_pos trivial, if_neg (by simp; omega)]
    · simp only [paroleref04_Collide.l0]
      rw [if_neg (by omega)]
  | succ d ih =>
    intro k m i h hk hm2
    obtain ⟨k, rfl⟩ : ∃ m, k = m + 2 := ⟨k - 2, by omega⟩
    obtain ⟨m, rfl⟩ : ∃ x, m = x + 1 := ⟨m - 1, by omega⟩
    obtain ⟨r, hr, hr2⟩ := ih k m (i + 1) (by omega) (by omega) (by omega)
    have hw : wrap64 ((i : Int) + 1) = ((i + 1 : Nat) : Int) := by rw [wrap64_of (by omega) (by omega)]; omega
    have e1 : ∀ res, (if (rd_T59 A (i : Int)).f0 = (rd_T59 B (i : Int)).f0 then (if (rd_T59 A (i : Int)).f1 = (rd_T59 B (i : Int)).f1 then some r else (digest_Join.f (rd_T59 A (i : Int)).f0 (rd_T59 A (i : Int)).f1).bind fun s => (digest_Join.f (rd_T59 B (i : Int)).f0 (rd_T59 B (i : Int)).f1).bind fun u => if s = u then some ((rd_T59 A (i : Int)).f0, (rd_T59 A (i : Int)).f1, (rd_T59 B (i : Int)).f0, (rd_T59 B (i : Int)).f1, true) else some r)
        else (digest_Join.f (rd_T59 A (i : Int)).f0 (rd_T59 A (i : Int)).f1).bind fun s => (digest_Join.f (rd_T59 B (i : Int)).f0 (rd_T59 B (i : Int)).f1).bind fun u => if s = u then some ((rd_T59 A (i : Int)).f0, (rd_T59 A (i : Int)).f1, (rd_T59 B (i : Int)).f0, (rd_T59 B (i : Int)).f1, true) else some r) = some res →
        merkle_Collide.l0 (k + 2) A true B true (i : Int) = some res := by
      intro res h
      simp only [merkle_Collide.l0, merkle_Collide.j1]
      rw [if_pos trivial, if_pos trivial, if_pos (by simp; omega), if_pos (by omega), if_pos (by omega), if_pos (by omega), hw, hr]
      exact h
    have e2 : ∀ res, (if (rd_T59 A (i : Int)).f0 = (rd_T59 B (i : Int)).f0 then (if (rd_T59 A (i : Int)).f1 = (rd_T59 B (i : Int)).f1 then some r else (paroleref03_Join.f (rd_T59 A (i : Int)).f0 (rd_T59 A (i : Int)).f1).bind fun s => (paroleref03_Join.f (rd_T59 B (i : Int)).f0 (rd_T59 B (i : Int)).f1).bind fun u => if s = u then some ((rd_T59 A (i : Int)).f0, (rd_T59 A (i : Int)).f1, (rd_T59 B (i : Int)).f0, (rd_T59 B (i : Int)).f1, true) else some r)
        else (paroleref03_Join.f (rd_T59 A (i : Int)).f0 (rd_T59 A (i : Int)).f1).bind fun s => (paroleref03_Join.f (rd_T59 B (i : Int)).f0 (rd_T59 B (i : Int)).f1).bind fun u => if s = u then some ((rd_T59 A (i : Int)).f0, (rd_T59 A (i : Int)).f1, (rd_T59 B (i : Int)).f0, (rd_T59 B (i : Int)).f1, true) else some r) = some res →
        paroleref04_Collide.l0 (m + 1) A B (i : Int) = some res := by
      intro res h
      simp only [paroleref04_Collide.l0]
      rw [if_pos (by omega), if_pos (by omega), if_pos (by omega), hw, hr2]
      exact h
    by_cases h0 : (rd_T59 A (i : Int)).f0 = (rd_T59 B (i : Int)).f0
    · by_cases h1 : (rd_T59 A (i : Int)).f1 = (rd_T59 B (i : Int)).f1
      · exact ⟨r, e1 _ (by rw [if_pos h0, if_pos h1]), e2 _ (by rw [if_pos h0, if_pos h1])⟩
      · by_cases hj : joinV (rd_T59 A (i : Int)).f0 (rd_T59 A (i : Int)).f1 = joinV (rd_T59 B (i : Int)).f0 (rd_T59 B (i : Int)).f1
        · exact ⟨_, e1 _ (by rw [if_pos h0, if_neg h1, joinV_f, Option.bind_some, joinV_f, Option.bind_some, if_pos hj]), e2 _ (by rw [if_pos h0, if_neg h1, rjoinE, Option.bind_some, rjoinE, Option.bind_some, if_pos hj])⟩
        · exact ⟨_, e1 _ (by rw [if_pos h0, if_neg h1, joinV_f, Option.bind_some, joinV_f, Option.bind_some, if_neg hj]), e2 _ (by rw [if_pos h0, if_neg h1, rjoinE, Option.bind_some, rjoinE, Option.bind_some, if_neg hj])⟩
    · by_cases hj : joinV (rd_T59 A (i : Int)).f0 (rd_T59 A (i : Int)).f1 = joinV (rd_T59 B (i : Int)).f0 (rd_T59 B (i : Int)).f1
      · exact ⟨_, e1 _ (by rw [if_neg h0, joinV_f, Option.bind_some, joinV_f, Option.bind_some, if_pos hj]), e2 _ (by rw [if_neg h0, rjoinE, Option.bind_some, rjoinE, Option.bind_some, if_pos hj])⟩
      · exact ⟨_, e1 _ (by rw [if_neg h0, joinV_f, Option.bind_some, joinV_f, Option.bind_some, if_neg hj]), e2 _ (by rw [if_neg h0, rjoinE, Option.bind_some, rjoinE, Option.bind_some, if_neg hj])⟩
theorem rcollide_f (n i a b : Int) (p q : List Int) (k m : Nat) (hp : p.length ≤ 4096) (hq : q.length ≤ 4096) (hk : 9000 ≤ k) (hm : 9000 ≤ m) :
    ∃ r, merkle_Collide.f k n i a p b q = some r ∧ paroleref04_Collide.f m n i a p b q = some r := by
  obtain ⟨m, rfl⟩ : ∃ x, m = x + 1 := ⟨m - 1, by omega⟩
  obtain ⟨e, he⟩ := place_some n i
  unfold merkle_Collide.f paroleref04_Collide.f
  rw [rplace, he, Option.bind_some, Option.bind_some]
  by_cases h0 : e = 0
  · subst h0
    obtain ⟨N, I, rfl, rfl, hN, hI⟩ := place_ok he
    have hl := dirs_length N N I
    rw [if_pos rfl, if_pos rfl, rsteps_f N N I (m + 1) hI (Nat.le_refl _) hN hN (by omega), Option.bind_some, List.length_reverse]
    unfold merkle_pairs.f
    rw [if_pos ⟨by omega, by omega, by omega, by omega⟩, if_pos ⟨by omega, by omega, by omega, by omega⟩]
    rw [Option.bind_some, Option.bind_some]
    simp only [Int.toNat_natCast, paroleref04_Collide.j0]
    have e1 : ∀ (c : Int) (z : List Int), z.length = (dirs N N I).length → pairsF N I c z = (allP N I c z, true) := fun c z hz => by unfold pairsF allP; rw [if_neg (by omega), decide_eq_true hz]
    have e2 : ∀ (c : Int) (z : List Int), z.length ≠ (dirs N N I).length → (pairsF N I c z).2 = false := fun c z hz => by
      unfold pairsF
      split
      · rfl
      · exact decide_eq_false hz
    by_cases h1 : p.length = (dirs N N I).length
    · by_cases h2 : q.length = (dirs N N I).length
      · have hb : ((q.length : Int) != (p.length : Int)) = false := bne_eq_false_iff_eq.2 (by omega)
        rw [if_pos (show (p.length : Int) = ((dirs N N I).length : Int) by omega), hb, if_neg (by decide), rpairs_f N I m a p hN hI h1 (by omega), Option.bind_some, rpairs_f N I m b q hN hI h2 (by omega), Option.bind_some, e1 a p h1, e1 b q h2]
        have la := allP_length N I a p
        have lb := allP_length N I b q
        exact collide_both (allP N I a p) (allP N I b q) (by omega) (by omega) (allP N I a p).length k m 0 (by omega) (by omega) (by omega)
      · have hb : ((q.length : Int) != (p.length : Int)) = true := bne_iff_ne.2 (by omega)
        rw [if_pos (show (p.length : Int) = ((dirs N N I).length : Int) by omega), hb, if_pos rfl, e2 b q h2]
        exact ⟨_, collide_off k _ _ _ _ (by simp) (by omega), rfl⟩
    · rw [if_neg (show ¬ (p.length : Int) = ((dirs N N I).length : Int) by omega), if_pos trivial, e2 a p h1]
      exact ⟨_, collide_off k _ _ _ _ (by simp) (by omega), rfl⟩
  · rw [if_neg h0, if_neg h0]
    simp only [paroleref04_Collide.j0]
    rw [if_pos trivial]
    exact ⟨_, rfl, rfl⟩
end Go.Proofs.Ytikicibbbeofnaa.MR
