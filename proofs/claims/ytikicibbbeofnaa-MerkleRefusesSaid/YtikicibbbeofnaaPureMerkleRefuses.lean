/- Places that there are not, lists that are too long, and paths that are one longer or shorter, are refused: for every list of up to 100 numbers and every place. -/
import Derived.Test.YtikicibbbeofnaaMgMF
import Derived.Test.YtikicibbbeofnaaMF6
namespace Go.Proofs.Ytikicibbbeofnaa.Pure
open Go.RowKit Go.Proofs.YtikicibbbeofnaaW.PrintWords Go.Proofs.YtikicibbbeofnaaW.PrintLast Go.Proofs.YtikicibbbeofnaaW.PrintMore Go.Proofs.Ytikicibbbeofnaa.MF
theorem check_place {root n i leaf : Int} {p : List Int} {e : Int} (h : merkle_place.f n i = some e) (h0 : e ≠ 0) : parolelaw04_check.f root n i leaf p = some e := by
  unfold parolelaw04_check.f merkle_Check.f
  rw [h, Option.bind_some, if_neg h0, Option.bind_some]
theorem place_big (i : Int) : merkle_place.f 4097 i = some 2 := by unfold merkle_place.f; rw [if_pos (by omega)]
theorem open_big (l : List Int) (i : Int) (h : 4096 < l.length) : parolelaw04_open.f l i = some ([], 2) := by
  unfold parolelaw04_open.f merkle_Open.f
  rw [if_pos (by omega), Option.bind_some]
theorem check_long {root leaf : Int} {N I : Nat} {p : List Int} (hN : N ≤ 4096) (hI : I < N) (hp : p.length ≤ 10000) (h : p.length ≠ (dirs N N I).length) : parolelaw04_check.f root (N : Int) (I : Int) leaf p = some 40 := by
  rw [check_f _ _ _ _ _ hN hI (by omega), if_neg h]
theorem j0_out (k : Nat) (i : Int) (r : List Int) (root : Int) (hn : r.length ≤ 4096) (h : i < 0 ∨ i ≥ (r.length : Int)) : parolelaw04_MerkleRefuses.j0 (k + 1) i true r root true [] 1 = some true := by
  simp only [parolelaw04_MerkleRefuses.j0]
  have hp : merkle_place.f (r.length : Int) i = some 1 := by
    unfold merkle_place.f
    rw [if_neg (by omega)]
    rcases h with h | h
    · rw [if_pos h]
    · by_cases h0 : i < 0
      · rw [if_pos h0]
      · rw [if_neg h0, if_pos h]
  rw [if_pos trivial, if_pos trivial, if_pos (by rfl), check_place hp (by decide), Option.bind_some, if_pos rfl]
theorem j0_in (k : Nat) (i : Nat) (r : List Int) (root : Int) (p : List Int) (hn : r.length ≤ 100) (hi : i < r.length) (hp : p.length = (dirs r.length r.length i).length) (hs : p.length ≤ 12) : parolelaw04_MerkleRefuses.j0 (k + 5000) (i : Int) true r root false p 0 = some true := by
  obtain ⟨g, hg, hgl, _⟩ := grown_f r 4097 (k + 4999) (by omega) (by omega) (by omega)
  have hg' : paroleref04_Grown.f (k + 4999) r 4097 = some g := by rw [show (4097 : Int) = ((4097 : Nat) : Int) from rfl]; exact hg
  rw [show k + 5000 = (k + 4999) + 1 by omega]
  simp only [parolelaw04_MerkleRefuses.j0]
  rw [if_neg (by decide)]
  simp only [Option.bind_some, List.nil_append, List.length_nil, Nat.zero_add]
  have hlong : (p ++ [0]).length = p.length + 1 := by rw [List.length_append, List.length_singleton]
  have hsnd : (([] : List Int), (2 : Int)).2 = 2 := rfl
  rw [if_pos (by omega), if_pos (by rw [List.length_singleton]; omega)]
  by_cases h0 : (p.length : Int) > 0
  · rw [if_pos h0, if_pos (by omega), hg', Option.bind_some, open_big g _ (by omega), Option.bind_some, if_pos hsnd, check_place (place_big _) (by decide), Option.bind_some, if_pos rfl, check_place (place_big _) (by decide), Option.bind_some, if_pos rfl, if_pos (by omega), if_pos (by omega)]
    rw [check_long (p := p ++ [0]) (by omega) hi (by omega) (by omega), Option.bind_some, if_pos rfl, if_neg (by omega), check_long (p := p.drop 1) (by omega) hi (by rw [List.length_drop]; omega) (by rw [List.length_drop]; omega), Option.bind_some, if_pos rfl]
  · rw [if_neg h0, hg', Option.bind_some, open_big g _ (by omega), Option.bind_some, if_pos hsnd, check_place (place_big _) (by decide), Option.bind_some, if_pos rfl, check_place (place_big _) (by decide), Option.bind_some, if_pos rfl, if_pos (by omega), if_pos (by omega)]
    rw [check_long (p := p ++ [0]) (by omega) hi (by omega) (by omega), Option.bind_some, if_pos rfl, if_pos (by omega)]
theorem MerkleRefuses : parolelaw04_MerkleRefuses.Pure := by
  intro l a i hl hl8 hlw ha hi
  obtain ⟨a0, a1⟩ := wf_u8 ha
  obtain ⟨a, rfl⟩ := Int.eq_ofNat_of_zero_le a0
  obtain ⟨r, hg, hr, _⟩ := grown_f l (1 + a % 100) 9998 (by omega) (by omega) (by omega)
  refine ⟨9998, ?_⟩
  unfold parolelaw04_MerkleRefuses.f
  have hex : parolelaw04_examples.f 9998 = some true := ex4_at 9968
  have hw : wrap64 (1 + wrap64 (Int.tmod (a : Int) 100)) = ((1 + a % 100 : Nat) : Int) := by
    rw [show (100 : Int) = ((100 : Nat) : Int) from rfl, tmod_nat, wrap64_of (n := ((a % 100 : Nat) : Int)) (by omega) (by omega), wrap64_of (by omega) (by omega)]; omega
  rw [hex, Option.bind_some, if_pos rfl, hw, hg, Option.bind_some, root_f r (by omega), Option.bind_some]
  by_cases h0 : i < 0
  · have ho : parolelaw04_open.f r i = some ([], 1) := by
      unfold parolelaw04_open.f merkle_Open.f
      rw [if_neg (by omega), if_pos h0, Option.bind_some]
    rw [ho, Option.bind_some, if_pos h0]
    exact j0_out 9997 i r _ (by omega) (.inl h0)
  simp only [if_neg h0]
  by_cases h1 : i ≥ (r.length : Int)
  · have ho : parolelaw04_open.f r i = some ([], 1) := by
      unfold parolelaw04_open.f merkle_Open.f
      rw [if_neg (by omega), if_neg h0, if_pos h1, Option.bind_some]
    rw [ho, Option.bind_some, decide_eq_true h1]
    exact j0_out 9997 i r _ (by omega) (.inr h1)
  obtain ⟨i, rfl⟩ := Int.eq_ofNat_of_zero_le (show 0 ≤ i by omega)
  have hd := dirs_down r.length r i
  have hs := dirs_small r.length r.length i 12 (by omega)
  rw [open_f r i (by omega) (by omega), Option.bind_some, decide_eq_false h1]
  exact j0_in 4998 i r _ _ (by omega) (by omega) (by rw [List.length_reverse]; exact hd) (by rw [List.length_reverse]; omega)
end Go.Proofs.Ytikicibbbeofnaa.Pure
