/- Roots, paths, checks and collisions are as in the reference implementation: for every list of at most 60 numbers and any two openings of at most 60 elements. -/
import Derived.Test.YtikicibbbeofnaaMdMR
import Derived.Test.YtikicibbbeofnaaStMerkleMatchesReference
namespace Go.Proofs.Ytikicibbbeofnaa.Pure
open Go.RowKit Go.Proofs.YtikicibbbeofnaaW.PrintWords Go.Proofs.YtikicibbbeofnaaW.PrintLast Go.Proofs.YtikicibbbeofnaaW.PrintMore Go.Proofs.Ytikicibbbeofnaa.MR
theorem check_some (root n i leaf : Int) (p : List Int) (hp : p.length ≤ 4096) : ∃ e, parolelaw04_check.f root n i leaf p = some e := by
  obtain ⟨e, he⟩ := place_some n i
  by_cases h0 : e = 0
  · subst h0
    obtain ⟨N, I, rfl, rfl, hN, hI⟩ := place_ok he
    exact ⟨_, check_f _ _ _ _ _ hN hI (by omega)⟩
  · refine ⟨e, ?_⟩
    unfold parolelaw04_check.f merkle_Check.f
    rw [he, Option.bind_some, if_neg h0, Option.bind_some]
theorem j3_f (k : Nat) (n i a0 b0 : Int) (p0 q0 : List Int) (own : Int) (p : List Int) (hk : 9001 ≤ k) (hp : p.length ≤ 4096) (hq : q0.length ≤ 4096) : parolelaw04_MerkleMatchesReference.j3 k true n i false a0 p0 b0 q0 own p = some true := by
  obtain ⟨k, rfl⟩ : ∃ m, k = m + 1 := ⟨k - 1, by omega⟩
  simp only [parolelaw04_MerkleMatchesReference.j3]
  obtain ⟨r, h1, h2⟩ := rcollide_f n i own b0 p q0 k k hp hq (by omega) (by omega)
  rw [if_neg (by decide), h1, h2, Option.bind_some, Option.bind_some, if_pos rfl, if_pos rfl, if_pos rfl, if_pos rfl, if_pos (by simp)]
theorem j4_f (k : Nat) (n i a0 b0 : Int) (p0 q0 : List Int) (own : Int) (p : List Int) (hk : 9001 ≤ k) (hp : p.length ≤ 4096) (hq : q0.length ≤ 4096) : parolelaw04_MerkleMatchesReference.j4 k true n i false a0 p0 b0 q0 own p = some true := by
  obtain ⟨k, rfl⟩ : ∃ m, k = m + 1 := ⟨k - 1, by omega⟩
  simp only [parolelaw04_MerkleMatchesReference.j4]
  obtain ⟨r, h1, h2⟩ := rcollide_f n i own b0 p q0 k k hp hq (by omega) (by omega)
  rw [if_neg (by decide), h1, h2, Option.bind_some, Option.bind_some, if_pos rfl, if_pos rfl, if_pos rfl, if_pos rfl, if_pos (by simp)]
theorem MerkleMatchesReference : parolelaw04_MerkleMatchesReference.Pure := by
  intro l a0 p0 b0 q0 n i z hl hl8 hlw ha hp hpw hb hq hqw hn hi hz
  refine ⟨20000, ?_⟩
  unfold parolelaw04_MerkleMatchesReference.f
  have hex : parolelaw04_examples.f 20000 = some true := ex4_at 19970
  rw [hex, Option.bind_some, if_pos rfl]
  have j0t : parolelaw04_MerkleMatchesReference.j0 20000 l true true a0 p0 b0 q0 n i z = some true := by simp only [parolelaw04_MerkleMatchesReference.j0]; rw [if_pos trivial]
  by_cases h1 : (l.length : Int) > 60
  · rw [if_pos h1, j0t]
  rw [if_neg h1]
  by_cases h2 : (p0.length : Int) > 60
  · rw [if_pos h2, j0t]
  rw [if_neg h2]
  by_cases h3 : (q0.length : Int) > 60
  · rw [decide_eq_true h3, j0t]
  rw [decide_eq_false h3]
  simp only [parolelaw04_MerkleMatchesReference.j0]
  rw [if_neg (by decide), rroot_f l _ (by omega) (by omega), ropen_f l i _ (by omega) (by omega), root_f l (by omega)]
  -- what Open gives
  have ho : ∃ p e, parolelaw04_open.f l i = some (p, e) ∧ p.length ≤ 60 ∧ (e = 0 → 0 ≤ i ∧ i < (l.length : Int)) := by
    by_cases g0 : i < 0
    · refine ⟨[], 1, ?_, by simp, fun h => absurd h (by decide)⟩
      unfold parolelaw04_open.f merkle_Open.f
      rw [if_neg (by omega), if_pos g0, Option.bind_some]
    by_cases g1 : i ≥ (l.length : Int)
    · refine ⟨[], 1, ?_, by simp, fun h => absurd h (by decide)⟩
      unfold parolelaw04_open.f merkle_Open.f
      rw [if_neg (by omega), if_neg g0, if_pos g1, Option.bind_some]
    · have hd := dirs_down l.length l i.toNat
      have hs := dirs_small l.length l.length i.toNat 12 (by omega)
      have := open_f l i.toNat (by omega) (by omega)
      rw [Int.toNat_of_nonneg (by omega)] at this
      exact ⟨_, 0, this, by rw [List.length_reverse]; omega, fun _ => ⟨by omega, by omega⟩⟩
  obtain ⟨p, e, ho, hpl, hin⟩ := ho
  rw [ho, Option.bind_some, Option.bind_some, Option.bind_some, Option.bind_some, if_pos rfl, if_pos rfl, same_self p _ (by omega) (by omega), Option.bind_some]
  simp only [parolelaw04_MerkleMatchesReference.j1]
  rw [if_neg (by decide)]
  obtain ⟨c1, hc1⟩ := check_some (joinV (l.length : Int) (topN l.length l)) (l.length : Int) i (rd l i) p (by omega)
  obtain ⟨c2, hc2⟩ := check_some a0 (l.length : Int) i b0 q0 (by omega)
  obtain ⟨c3, hc3⟩ := check_some (joinV (l.length : Int) (topN l.length l)) n i a0 p0 (by omega)
  obtain ⟨c4, hc4⟩ := check_some a0 n i b0 q0 (by omega)
  have j2f : parolelaw04_MerkleMatchesReference.j2 19998 l true n i (joinV (l.length : Int) (topN l.length l)) false a0 p0 b0 q0 p e a0 p0 = some true := by
    simp only [parolelaw04_MerkleMatchesReference.j2]
    rw [if_neg (by decide), rcheck_f _ _ _ _ _ _ (by omega) (by omega), rcheck_f _ _ _ _ _ _ (by omega) (by omega), hc3, hc4, Option.bind_some, Option.bind_some, if_pos rfl, Option.bind_some, Option.bind_some, bne_self_eq_false]
    exact j4_f _ _ _ _ _ _ _ _ _ (by omega) (by omega) (by omega)
  by_cases he : e = 0
  · obtain ⟨g0, g1⟩ := hin he
    subst he
    rw [if_pos rfl]
    cases hz2 : (Int.tmod z 2 == 0) with
    | false => exact j2f
    | true =>
      simp only [parolelaw04_MerkleMatchesReference.j2]
      rw [if_pos trivial, if_pos g0, if_pos g1, rcheck_f _ _ _ _ _ _ (by omega) (by omega), rcheck_f _ _ _ _ _ _ (by omega) (by omega), hc1, hc2, Option.bind_some, Option.bind_some, if_pos rfl, Option.bind_some, Option.bind_some, bne_self_eq_false]
      exact j3_f _ _ _ _ _ _ _ _ _ (by omega) (by omega) (by omega)
  · rw [if_neg he]
    exact j2f
end Go.Proofs.Ytikicibbbeofnaa.Pure
