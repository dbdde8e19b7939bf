import Derived.Test.YtikicibbbeofnaaMbMR
import Derived.Test.YtikicibbbeofnaaMR7
namespace Go.Proofs.Ytikicibbbeofnaa.MR
open Go.RowKit Go.Proofs.YtikicibbbeofnaaW.PrintWords Go.Proofs.YtikicibbbeofnaaW.PrintLast Go.Proofs.YtikicibbbeofnaaW.PrintMore
set_option linter.unusedVariables false
theorem ext_rd {a b : List Int} (hl : a.length = b.length) (h : ∀ j : Nat, j < a.length → rd a (j : Int) = rd b (j : Int)) : a = b := by
  refine List.ext_getElem hl fun j h1 h2 => ?_
  have := h j h1
  unfold rd at this
  rw [Int.toNat_natCast, List.getD_eq_getElem?_getD, List.getD_eq_getElem?_getD, List.getElem?_eq_getElem h1, List.getElem?_eq_getElem h2] at this
  exact this
theorem same_l0g : ∀ (d k : Nat) (a b : List Int) (i : Nat), a.length = b.length → i + d = a.length → a.length ≤ 17592186044416 → d < k → (∀ j : Nat, j < i → rd a (j : Int) = rd b (j : Int)) →
    ∃ r, paroleref04_Same.l0 k a b (i : Int) = some r ∧ (r = true ↔ a = b)
  | 0, k, a, b, i, hl, h, hm, hk, hp => by
    obtain ⟨k, rfl⟩ : ∃ m, k = m + 1 := ⟨k - 1, by omega⟩
    refine ⟨true, ?_, ⟨fun _ => ext_rd hl fun j hj => hp j (by omega), fun _ => rfl⟩⟩
    simp only [paroleref04_Same.l0]
    rw [if_neg (by omega)]
  | d + 1, k, a, b, i, hl, h, hm, hk, hp => by
    obtain ⟨k, rfl⟩ : ∃ m, k = m + 1 := ⟨k - 1, by omega⟩
    simp only [paroleref04_Same.l0]
    rw [if_pos (by omega), if_pos (by omega), if_pos (by omega)]
    by_cases he : rd a (i : Int) = rd b (i : Int)
    · rw [if_pos he, wrap64_of (by omega) (by omega)]
      refine same_l0g d k a b (i + 1) hl (by omega) hm (by omega) fun j hj => ?_
      rcases Nat.lt_succ_iff_lt_or_eq.1 hj with h | h
      · exact hp j h
      · rw [h]; exact he
    · rw [if_neg he]
      exact ⟨false, rfl, ⟨(fun h => by cases h), (fun h => by subst h; exact absurd rfl he)⟩⟩
theorem same_f (a b : List Int) (k : Nat) (hm : a.length ≤ 17592186044416) (hk : a.length < k) : ∃ r, paroleref04_Same.f k a b = some r ∧ (r = true ↔ a = b) := by
  unfold paroleref04_Same.f
  by_cases hl : a.length = b.length
  · rw [if_pos (by omega)]
    exact same_l0g a.length k a b 0 hl (by omega) hm hk fun j hj => by omega
  · rw [if_neg (by omega)]
    exact ⟨false, rfl, ⟨(fun h => by cases h), (fun h => by subst h; exact absurd rfl hl)⟩⟩
abbrev jn (x : S59) : Int := joinV x.f0 x.f1
theorem collide_off (k : Nat) (A B : List S59) (x y : Bool) (h : ¬ (x = true ∧ y = true)) (hk : 2 ≤ k) : merkle_Collide.l0 k A x B y 0 = some (0, 0, 0, 0, false) := by
  obtain ⟨k, rfl⟩ : ∃ m, k = m + 2 := ⟨k - 2, by omega⟩
  simp only [merkle_Collide.l0]
  cases x <;> cases y <;> simp_all [merkle_Collide.j1]
def FoundP (A B : List S59) (i : Nat) (r : Int × Int × Int × Int × Bool) : Prop :=
  (∃ j : Nat, i ≤ j ∧ j < A.length ∧ rd_T59 A j ≠ rd_T59 B j ∧ jn (rd_T59 A j) = jn (rd_T59 B j) ∧ r = ((rd_T59 A j).f0, (rd_T59 A j).f1, (rd_T59 B j).f0, (rd_T59 B j).f1, true)) ∨
  ((∀ j : Nat, i ≤ j → j < A.length → jn (rd_T59 A j) = jn (rd_T59 B j) → rd_T59 A j = rd_T59 B j) ∧ r.2.2.2.2 = false)
theorem FoundP.step {A B : List S59} {i : Nat} {r : Int × Int × Int × Int × Bool} (h : FoundP A B (i + 1) r) (hi : jn (rd_T59 A i) = jn (rd_T59 B i) → rd_T59 A i = rd_T59 B i) : FoundP A B i r := by
  rcases h with ⟨j, h1, h2⟩ | ⟨h1, h2⟩
  · exact .inl ⟨j, by omega, h2⟩
  · refine .inr ⟨fun j hj hl hn => ?_, h2⟩
    rcases Nat.eq_or_lt_of_le hj with e | e
    · subst e; exact hi hn
    · exact h1 j e hl hn
theorem collide_l0 (A B : List S59) (hl : A.length = B.length) (hm : A.length ≤ 17592186044416) : ∀ (d k i : Nat), i + d = A.length → 2 * d + 2 ≤ k → ∃ r, merkle_Collide.l0 k A true B true (i : Int) = some r ∧ FoundP A B i r := by
  intro d
  induction d with
  | zero =>
    intro k i h hk
    obtain ⟨k, rfl⟩ : ∃ m, k = m + 2 := ⟨k - 2, by omega⟩
    refine ⟨(0, 0, 0, 0, false), ?_, .inr ⟨fun j h1 h2 => by omega, rfl⟩⟩
    simp only [merkle_Collide.l0, merkle_Collide.j1]
    rw [if_pos trivial, if_pos trivial, if_neg (by simp; omega)]
  | succ d ih =>
    intro k i h hk
    obtain ⟨k, rfl⟩ : ∃ m, k = m + 2 := ⟨k - 2, by omega⟩
    obtain ⟨r, hr, hf⟩ := ih k (i + 1) (by omega) (by omega)
    have hw : wrap64 ((i : Int) + 1) = ((i + 1 : Nat) : Int) := by rw [wrap64_of (by omega) (by omega)]; omega
    simp only [merkle_Collide.l0, merkle_Collide.j1]
    rw [if_pos trivial, if_pos trivial, if_pos (by simp; omega), if_pos (by omega), if_pos (by omega), if_pos (by omega), hw, hr]
    have hne : ∀ x y : S59, x = y ↔ x.f0 = y.f0 ∧ x.f1 = y.f1 := fun x y => by cases x; cases y; simp
    by_cases h0 : (rd_T59 A (i : Int)).f0 = (rd_T59 B (i : Int)).f0
    · rw [if_pos h0]
      by_cases h1 : (rd_T59 A (i : Int)).f1 = (rd_T59 B (i : Int)).f1
      · rw [if_pos h1]
        exact ⟨r, rfl, hf.step fun _ => (hne _ _).2 ⟨h0, h1⟩⟩
      · rw [if_neg h1, joinV_f, Option.bind_some, joinV_f, Option.bind_some]
        by_cases hj : jn (rd_T59 A (i : Int)) = jn (rd_T59 B (i : Int))
        · rw [if_pos hj]
          exact ⟨_, rfl, .inl ⟨i, Nat.le_refl _, by omega, fun e => h1 ((hne _ _).1 e).2, hj, rfl⟩⟩
        · rw [if_neg hj]
          exact ⟨r, rfl, hf.step fun e => absurd e hj⟩
    · rw [if_neg h0, joinV_f, Option.bind_some, joinV_f, Option.bind_some]
      by_cases hj : jn (rd_T59 A (i : Int)) = jn (rd_T59 B (i : Int))
      · rw [if_pos hj]
        exact ⟨_, rfl, .inl ⟨i, Nat.le_refl _, by omega, fun e => h0 ((hne _ _).1 e).1, hj, rfl⟩⟩
      · rw [if_neg hj]
        exact ⟨r, rfl, hf.step fun e => absurd e hj⟩
/-- the pairs of an opening whose path has the right length -/
def allP (N I : Nat) (leaf : Int) (p : List Int) : List S59 := prsN (dirs N N I) p leaf (dirs N N I).length ++ [⟨(N : Int), upN (dirs N N I) p leaf (dirs N N I).length⟩]
theorem allP_length (N I : Nat) (leaf : Int) (p : List Int) : (allP N I leaf p).length = (dirs N N I).length + 2 := by unfold allP; rw [List.length_append, prsN_length]; rfl
theorem allP_zero (N I : Nat) (leaf : Int) (p : List Int) : rd_T59 (allP N I leaf p) ((0 : Nat) : Int) = ⟨0, leaf⟩ := by unfold allP rd_T59 prsN; simp
theorem allP_succ (N I : Nat) (leaf : Int) (p : List Int) (j : Nat) (h : j < (dirs N N I).length) : rd_T59 (allP N I leaf p) ((j + 1 : Nat) : Int) = prN (dirs N N I) p leaf j := by
  unfold allP rd_T59 prsN
  rw [Int.toNat_natCast, List.getD_eq_getElem?_getD, List.getElem?_append_left (by simp; omega), List.getElem?_cons_succ, List.getElem?_map, List.getElem?_range h]
  rfl
theorem allP_last (N I : Nat) (leaf : Int) (p : List Int) : rd_T59 (allP N I leaf p) (((dirs N N I).length + 1 : Nat) : Int) = ⟨(N : Int), upN (dirs N N I) p leaf (dirs N N I).length⟩ := by
  have e : (((dirs N N I).length + 1 : Nat) : Int) = ((prsN (dirs N N I) p leaf (dirs N N I).length).length : Int) := by rw [prsN_length]
  unfold allP
  rw [e, rd59_last]
theorem jn_pr (D : List Bool) (p : List Int) (leaf : Int) (j : Nat) : jn (prN D p leaf j) = upN D p leaf (j + 1) := by
  unfold prN
  simp only [upN]
  split <;> rfl
/-- If nothing is found, and both lead to one digest, the openings are one. -/
theorem bound (N I : Nat) (a b : Int) (p q : List Int) (hp : p.length = (dirs N N I).length) (hq : q.length = (dirs N N I).length)
    (h : ∀ j : Nat, j < (allP N I a p).length → jn (rd_T59 (allP N I a p) j) = jn (rd_T59 (allP N I b q) j) → rd_T59 (allP N I a p) j = rd_T59 (allP N I b q) j)
    (hr : joinV (N : Int) (upN (dirs N N I) p a (dirs N N I).length) = joinV (N : Int) (upN (dirs N N I) q b (dirs N N I).length)) : a = b ∧ p = q := by
  rw [allP_length] at h
  have hlast : upN (dirs N N I) p a (dirs N N I).length = upN (dirs N N I) q b (dirs N N I).length := by
    have := h ((dirs N N I).length + 1) (by omega) (by rw [allP_last, allP_last]; exact hr)
    rw [allP_last, allP_last] at this
    exact (S59.mk.inj this).2
  have key : ∀ d j : Nat, j + d = (dirs N N I).length → upN (dirs N N I) p a j = upN (dirs N N I) q b j ∧ ∀ i : Nat, j ≤ i → i < (dirs N N I).length → rd p (i : Int) = rd q (i : Int) := by
    intro d
    induction d with
    | zero => intro j hj; have : j = (dirs N N I).length := by omega
              subst this; exact ⟨hlast, fun i h1 h2 => by omega⟩
    | succ d ih =>
      intro j hj
      obtain ⟨h1, h2⟩ := ih (j + 1) (by omega)
      have := h (j + 1) (by omega) (by rw [allP_succ _ _ _ _ _ (by omega), allP_succ _ _ _ _ _ (by omega), jn_pr, jn_pr]; exact h1)
      rw [allP_succ _ _ _ _ _ (by omega), allP_succ _ _ _ _ _ (by omega)] at this
      have e : upN (dirs N N I) p a j = upN (dirs N N I) q b j ∧ rd p (j : Int) = rd q (j : Int) := by
        unfold prN at this
        cases hd : (dirs N N I).reverse.getD j false with
        | true => rw [hd] at this; rw [if_pos rfl, if_pos rfl] at this; exact S59.mk.inj this
        | false => rw [hd] at this; rw [if_neg (by decide), if_neg (by decide)] at this; exact (S59.mk.inj this).symm
      refine ⟨e.1, fun i h3 h4 => ?_⟩
      rcases Nat.eq_or_lt_of_le h3 with h5 | h5
      · subst h5; exact e.2
      · exact h2 i h5 h4
  obtain ⟨h1, h2⟩ := key (dirs N N I).length 0 (by omega)
  refine ⟨?_, ext_rd (by omega) fun j hj => h2 j (Nat.zero_le _) (by omega)⟩
  have := h 0 (by omega) (by rw [allP_zero, allP_zero]; exact h1)
  rw [allP_zero, allP_zero] at this
  exact (S59.mk.inj this).2
end Go.Proofs.Ytikicibbbeofnaa.MR
