/- The path of a place behind the greatest power of 2 ends with the top of the part ahead of it, whatever follows: for every list of 2 to 200 numbers. -/
import Derived.Test.YtikicibbbeofnaaMb
import Derived.Test.YtikicibbbeofnaaD15
namespace Go.Proofs.Ytikicibbbeofnaa.Pure
open Go.RowKit Go.Proofs.YtikicibbbeofnaaW.PrintWords Go.Proofs.YtikicibbbeofnaaW.PrintLast Go.Proofs.YtikicibbbeofnaaW.PrintMore Go.Proofs.Ytikicibbbeofnaa.D
theorem last_hi (l : List Int) (i : Nat) (h2 : 2 ≤ l.length) (hi : half l.length ≤ i) :
    ∃ p, (downN l.length l i).reverse = p ++ [topN (l.take (half l.length)).length (l.take (half l.length))] := by
  obtain ⟨n, hn⟩ : ∃ n, l.length = n + 1 := ⟨l.length - 1, by omega⟩
  have e : downN l.length l i = downN (n + 1) l i := by rw [hn]
  rw [e]
  simp only [downN]
  rw [if_neg (by omega), if_neg (by omega), List.reverse_cons]
  exact ⟨_, rfl⟩
theorem last_lo (l : List Int) (i : Nat) (h2 : 2 ≤ l.length) (hi : i < half l.length) :
    ∃ p, (downN l.length l i).reverse = p ++ [topN (l.drop (half l.length)).length (l.drop (half l.length))] := by
  obtain ⟨n, hn⟩ : ∃ n, l.length = n + 1 := ⟨l.length - 1, by omega⟩
  have e : downN l.length l i = downN (n + 1) l i := by rw [hn]
  rw [e]
  simp only [downN]
  rw [if_neg (by omega), if_pos hi, List.reverse_cons]
  exact ⟨_, rfl⟩
theorem snoc_last (p : List Int) (x : Int) (h : p.length ≤ 4096) : wrap64 (((p ++ [x]).length : Int) - 1) = (p.length : Int) := by
  have e : ((p ++ [x]).length : Int) - 1 = (p.length : Int) := by rw [List.length_append, List.length_singleton]; omega
  rw [e, wrap64_of (by omega) (by omega)]
theorem wrap_nat {n : Nat} (h : n ≤ 4096) : IntKind.u64.wrap (n : Int) = (n : Int) := wrap_len h
theorem half_more (n m H : Nat) (h2 : 2 ≤ n) (hH : H = half n) (h : H < m) (h3 : m ≤ 2 * H) : half m = H := by
  obtain ⟨h4, h5, h6⟩ := half_is n h2
  have hr := half_range n h2
  exact (half_is m (by omega)).unique ⟨by rw [hH]; exact h4, h, h3⟩
theorem j2_f (k H : Nat) (l2 r other : List Int) (h2 : 2 ≤ r.length) (hn : r.length ≤ 200) (hH : H = half r.length) (hm : l2.length ≤ 100) (ho : other = r.take H ++ l2) :
    parolelaw04_MerkleHalves.j2 (k + 1) l2 true (H : Int) other (topN (r.take H).length (r.take H)) false = some true := by
  have hr := half_range r.length h2
  simp only [parolelaw04_MerkleHalves.j2]
  rw [if_neg (by decide)]
  by_cases h0 : (l2.length : Int) = 0
  · rw [if_pos h0]
  rw [if_neg h0]
  by_cases h1 : (l2.length : Int) > (H : Int)
  · rw [if_pos h1]
  rw [if_neg h1]
  have hl : other.length = H + l2.length := by rw [ho, List.length_append, List.length_take]; omega
  have hh : half other.length = H := half_more r.length other.length H h2 hH (by omega) (by omega)
  have ht : other.take H = r.take H := by
    have : (r.take H).length = H := by rw [List.length_take]; omega
    rw [ho, List.take_append_of_le_length (by omega), List.take_of_length_le (by omega)]
  obtain ⟨p, hp⟩ := last_hi other H (by omega) (by omega)
  have hs := dirs_small other.length other.length H 12 (by omega)
  have hd := dirs_down other.length other H
  have hpl := congrArg List.length hp
  rw [List.length_reverse, List.length_append, List.length_singleton] at hpl
  rw [open_f other H (by omega) (by omega), Option.bind_some]
  simp only []
  rw [if_pos trivial, hp, snoc_last p _ (by omega), if_pos (by rw [List.length_append, List.length_singleton]; omega), if_pos (by omega), if_pos (by rw [List.length_append, List.length_singleton]; omega), rd_snoc_at rfl, hh, ht, if_pos rfl]
theorem l0_end (k : Nat) (l2 r : List Int) (h2 : 2 ≤ r.length) (hn : r.length ≤ 200) (hm : l2.length ≤ 100) :
    parolelaw04_MerkleHalves.l0 (k + 3) l2 true r (half r.length : Int) = some true := by
  obtain ⟨_, h5, h6⟩ := half_is r.length h2
  have hr := half_range r.length h2
  simp only [parolelaw04_MerkleHalves.l0]
  have hw : wrap64 (2 * (half r.length : Int)) = ((2 * half r.length : Nat) : Int) := by rw [wrap64_of (by omega) (by omega)]; omega
  rw [hw, if_neg (by omega)]
  simp only [Option.bind_some, List.nil_append, List.length_nil, Nat.zero_add, Int.toNat_natCast]
  have htl : (r.take (half r.length)).length = half r.length := by rw [List.length_take]; omega
  rw [if_pos (by omega), if_pos (by omega), if_pos (by omega), if_pos (by omega)]
  obtain ⟨p, hp⟩ := last_hi r (half r.length) h2 (Nat.le_refl _)
  obtain ⟨q, hq⟩ := last_lo r 0 h2 (by omega)
  have hs := dirs_small r.length r.length (half r.length) 12 (by omega)
  have hd := dirs_down r.length r (half r.length)
  have hpl := congrArg List.length hp
  rw [List.length_reverse, List.length_append, List.length_singleton] at hpl
  have hs2 := dirs_small r.length r.length 0 12 (by omega)
  have hd2 := dirs_down r.length r 0
  have hql := congrArg List.length hq
  rw [List.length_reverse, List.length_append, List.length_singleton] at hql
  have ho0 : parolelaw04_open.f r 0 = some ((downN r.length r 0).reverse, 0) := open_f r 0 (by omega) (by omega)
  rw [open_f r (half r.length) (by omega) (by omega), ho0, hp, hq]
  simp only [Option.bind_some]
  rw [if_pos trivial, if_pos trivial, if_neg (by rw [List.length_append, List.length_singleton]; omega)]
  have hqe : (((q ++ [topN (r.drop (half r.length)).length (r.drop (half r.length))]).length : Int) == 0) = false := beq_eq_false_iff_ne.2 (by rw [List.length_append, List.length_singleton]; omega)
  rw [hqe]
  simp only [parolelaw04_MerkleHalves.j1]
  rw [if_neg (by decide), snoc_last p _ (by omega), snoc_last q _ (by omega), if_pos (by omega), if_pos (by rw [List.length_append, List.length_singleton]; omega), if_pos (by omega), if_pos (by omega), Int.toNat_natCast, root_f _ (by omega), rd_snoc_at rfl, rd_snoc_at rfl, Option.bind_some, joinV_f, Option.bind_some]
  have hdl : (r.drop (half r.length)).length = r.length - half r.length := List.length_drop
  rw [wrap_nat (by omega), htl, if_pos rfl, root_f _ (by omega), Option.bind_some, if_pos (by omega), if_pos (by rw [List.length_append, List.length_singleton]; omega), joinV_f, Option.bind_some]
  have hw2 : wrap64 ((r.length : Int) - (half r.length : Int)) = ((r.length - half r.length : Nat) : Int) := by rw [wrap64_of (by omega) (by omega)]; omega
  rw [hw2, wrap_nat (by omega), hdl]
  have hj := j2_f k (half r.length) l2 r (r.take (half r.length) ++ l2) h2 hn rfl hm rfl
  rw [htl] at hj
  simp only [bne_self_eq_false]
  exact hj
theorem l0_loop (l2 r : List Int) (h2 : 2 ≤ r.length) (hn : r.length ≤ 200) (hm : l2.length ≤ 100) : ∀ (d k j : Nat), 2 ^ j < r.length → r.length ≤ d + 2 ^ j → parolelaw04_MerkleHalves.l0 (k + d + 3) l2 true r ((2 ^ j : Nat) : Int) = some true
  | 0, k, j, h, g => by omega
  | d + 1, k, j, h, g => by
    by_cases hc : 2 * 2 ^ j < r.length
    · have hp : 1 ≤ 2 ^ j := Nat.one_le_two_pow
      have e : 2 * 2 ^ j = 2 ^ (j + 1) := by rw [Nat.pow_succ]; omega
      have ih := l0_loop l2 r h2 hn hm d k (j + 1) (by omega) (by omega)
      have hw : wrap64 (2 * ((2 ^ j : Nat) : Int)) = ((2 ^ (j + 1) : Nat) : Int) := by rw [wrap64_of (by omega) (by omega)]; omega
      rw [show k + (d + 1) + 3 = (k + d + 3) + 1 by omega]
      generalize 2 ^ j = x at *
      generalize 2 ^ (j + 1) = y at *
      simp only [parolelaw04_MerkleHalves.l0]
      rw [hw, if_pos (by omega)]
      exact ih
    · have e : 2 ^ j = half r.length := (IsHalf.unique (half_is r.length h2) ⟨⟨j, rfl⟩, h, by omega⟩).symm
      rw [e]
      exact l0_end (k + (d + 1)) l2 r h2 hn hm
theorem MerkleHalves : parolelaw04_MerkleHalves.Pure := by
  intro l a l2 hl hl8 hlw ha hl2 hl28 hl2w
  obtain ⟨a0, a1⟩ := wf_u8 ha
  obtain ⟨a, rfl⟩ := Int.eq_ofNat_of_zero_le a0
  obtain ⟨r, hg, hr, _⟩ := grown_f l (2 + a % 199) 9998 (by omega) (by omega) (by omega)
  refine ⟨9998, ?_⟩
  unfold parolelaw04_MerkleHalves.f
  have hex : parolelaw04_examples.f 9998 = some true := ex4_at 9968
  have hw : wrap64 (2 + wrap64 (Int.tmod (a : Int) 199)) = ((2 + a % 199 : Nat) : Int) := by
    rw [show (199 : Int) = ((199 : Nat) : Int) from rfl, tmod_nat, wrap64_of (n := ((a % 199 : Nat) : Int)) (by omega) (by omega), wrap64_of (by omega) (by omega)]; omega
  rw [hex, Option.bind_some, if_pos rfl, hw, hg, Option.bind_some]
  by_cases hm : (l2.length : Int) > 100
  · rw [if_pos hm]
  rw [if_neg hm]
  exact l0_loop l2 r (by omega) (by omega) (by omega) r.length (9995 - r.length) 0 (by rw [Nat.pow_zero]; omega) (by omega) |> fun h => by
    rw [show 9995 - r.length + r.length + 3 = 9998 by omega] at h
    exact h
end Go.Proofs.Ytikicibbbeofnaa.Pure
