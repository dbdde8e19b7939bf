/- If two openings of one place are accepted for one root, they are equal, or there are two different pairs with the same digest, which Collide returns: for every list of at most 40 numbers, each place, and every other opening of at most 40 elements. -/
import Derived.Test.YtikicibbbeofnaaMcMB
import Derived.Test.YtikicibbbeofnaaStMerkleBinds
namespace Go.Proofs.Ytikicibbbeofnaa.Pure
open Go.RowKit Go.Proofs.YtikicibbbeofnaaW.PrintWords Go.Proofs.YtikicibbbeofnaaW.PrintLast Go.Proofs.YtikicibbbeofnaaW.PrintMore Go.Proofs.Ytikicibbbeofnaa.MB
theorem collide_f (k N I : Nat) (a b : Int) (p q : List Int) (hN : N ≤ 4096) (hI : I < N) (hp : p.length = (dirs N N I).length) (hq : q.length ≤ 1000) (hk : 9000 ≤ k) :
    ∃ r, merkle_Collide.f k (N : Int) (I : Int) a p b q = some r ∧ (q.length = (dirs N N I).length → FoundP (allP N I a p) (allP N I b q) 0 r) ∧ (q.length ≠ (dirs N N I).length → r.2.2.2.2 = false) := by
  have hd := dirs_length N N I
  unfold merkle_Collide.f
  rw [place_f hN hI, Option.bind_some, if_pos rfl]
  unfold merkle_pairs.f
  rw [if_pos ⟨by omega, by omega, by omega, by omega⟩, Option.bind_some, if_pos ⟨by omega, by omega, by omega, by omega⟩, Option.bind_some]
  simp only [Int.toNat_natCast]
  have e1 : pairsF N I a p = (allP N I a p, true) := by unfold pairsF allP; rw [if_neg (by omega), decide_eq_true hp]
  rw [e1]
  by_cases h : q.length = (dirs N N I).length
  · have e2 : pairsF N I b q = (allP N I b q, true) := by unfold pairsF allP; rw [if_neg (by omega), decide_eq_true h]
    rw [e2]
    obtain ⟨r, h1, h2⟩ := collide_l0 (allP N I a p) (allP N I b q) (by rw [allP_length, allP_length]) (by rw [allP_length]; omega) (allP N I a p).length k 0 (by omega) (by rw [allP_length]; omega)
    exact ⟨r, h1, fun _ => h2, fun hn => absurd h hn⟩
  · have e2 : (pairsF N I b q).2 = false := by
      unfold pairsF
      split
      · rfl
      · exact decide_eq_false h
    rw [e2]
    exact ⟨_, collide_off k _ _ _ _ (by simp) (by omega), fun hh => absurd hh h, fun _ => rfl⟩
theorem MerkleBinds : parolelaw04_MerkleBinds.Pure := by
  intro l a x q hl hl8 hlw ha hx hq hqw
  obtain ⟨a0, a1⟩ := wf_u8 ha
  obtain ⟨a, rfl⟩ := Int.eq_ofNat_of_zero_le a0
  refine ⟨9998, ?_⟩
  unfold parolelaw04_MerkleBinds.f
  have hex : parolelaw04_examples.f 9998 = some true := ex4_at 9968
  rw [hex, Option.bind_some, if_pos rfl]
  have j0t : parolelaw04_MerkleBinds.j0 9998 l (a : Int) true true x q = some true := by simp only [parolelaw04_MerkleBinds.j0]; rw [if_pos trivial]
  by_cases h0 : (l.length : Int) = 0
  · rw [if_pos h0, j0t]
  rw [if_neg h0]
  by_cases h40 : (l.length : Int) > 40
  · rw [if_pos h40, j0t]
  rw [if_neg h40]
  by_cases hq40 : (q.length : Int) > 40
  · rw [decide_eq_true hq40, j0t]
  rw [decide_eq_false hq40]
  have hN : l.length ≤ 4096 := by omega
  have hm : Int.tmod (wrap64 (a : Int)) (l.length : Int) = ((a % l.length : Nat) : Int) := by rw [wrap64_of (by omega) (by omega), tmod_nat]
  have hlt : a % l.length < l.length := Nat.mod_lt _ (by omega)
  simp only [parolelaw04_MerkleBinds.j0]
  rw [if_neg (by decide), if_neg h0, root_f l hN, Option.bind_some, hm]
  generalize a % l.length = i at hlt ⊢
  have hd := dirs_down l.length l i
  have hs := dirs_small l.length l.length i 12 (by omega)
  rw [open_f l i hN hlt, Option.bind_some, if_pos (by omega), if_pos (by omega)]
  simp only []
  rw [if_pos trivial, check_own l i hN hlt, Option.bind_some]
  have hup := up_down l.length l i hlt (Nat.le_refl _)
  have hp : (downN l.length l i).reverse.length = (dirs l.length l.length i).length := by rw [List.length_reverse]; exact hd
  generalize (downN l.length l i).reverse = p at hp hup ⊢
  generalize rd l (i : Int) = own at hup ⊢
  rw [← hup]
  generalize hNN : l.length = N at *
  -- whether they are the same
  have hsame : ∃ s, parolelaw04_MerkleBinds.j1 9997 l true (i : Int) (joinV (N : Int) (upN (dirs N N i) p own (dirs N N i).length)) ((0 : Int) != 0) x q own p =
      parolelaw04_MerkleBinds.j2 9996 l true (i : Int) (joinV (N : Int) (upN (dirs N N i) p own (dirs N N i).length)) s x q own p ∧ (s = true ↔ x = own ∧ q = p) := by
    simp only [parolelaw04_MerkleBinds.j1]
    rw [if_neg (by decide)]
    by_cases hxo : x = own
    · rw [if_pos hxo]
      obtain ⟨r, h1, h2⟩ := same_f q p 9996 (by omega) (by omega)
      rw [h1, Option.bind_some]
      exact ⟨r, rfl, by rw [h2]; exact ⟨fun h => ⟨hxo, h⟩, fun h => h.2⟩⟩
    · rw [if_neg hxo]
      exact ⟨false, rfl, ⟨(fun h => by cases h), fun h => absurd h.1 hxo⟩⟩
  obtain ⟨s, hj, hs2⟩ := hsame
  rw [hj]
  simp only [parolelaw04_MerkleBinds.j2]
  rw [hNN]
  obtain ⟨r, hc, hf, hf2⟩ := collide_f 9995 N i own x p q hN hlt hp (by omega) (by omega)
  rw [hc, Option.bind_some, check_f _ _ _ _ _ hN hlt (by omega)]
  by_cases hql : q.length = (dirs N N i).length
  · rw [if_pos hql]
    rcases hf hql with ⟨j, _, hjl, hne, hjn, rfl⟩ | ⟨hall, hfl⟩
    · have hns : s = false := by
        cases s with
        | false => rfl
        | true =>
          obtain ⟨e1, e2⟩ := hs2.1 rfl
          subst e1 e2
          exact absurd rfl hne
      subst hns
      rw [if_pos rfl]
      by_cases h1 : (rd_T59 (allP N i own p) (j : Int)).f0 = (rd_T59 (allP N i x q) (j : Int)).f0
      · rw [if_pos h1]
        by_cases h2 : (rd_T59 (allP N i own p) (j : Int)).f1 = (rd_T59 (allP N i x q) (j : Int)).f1
        · exact absurd (by cases hA : rd_T59 (allP N i own p) (j : Int); cases hB : rd_T59 (allP N i x q) (j : Int); rw [hA, hB] at h1 h2; simp_all) hne
        · rw [if_neg h2, joinV_f, Option.bind_some, joinV_f, Option.bind_some, if_pos hjn, Option.bind_some]
          split <;> simp
      · rw [if_neg h1, joinV_f, Option.bind_some, joinV_f, Option.bind_some, if_pos hjn, Option.bind_some]
        split <;> simp
    · rw [hfl, if_neg (by decide), Option.bind_some]
      by_cases hr : joinV (N : Int) (upN (dirs N N i) q x (dirs N N i).length) = joinV (N : Int) (upN (dirs N N i) p own (dirs N N i).length)
      · rw [if_pos hr, if_pos rfl]
        obtain ⟨e1, e2⟩ := bound N i own x p q hp hql (fun j hj => hall j (Nat.zero_le _) hj) hr.symm
        rw [hs2.2 ⟨e1.symm, e2.symm⟩, if_pos rfl]
      · rw [if_neg hr, if_neg (by decide)]
        split <;> rfl
  · rw [if_neg hql, hf2 hql, if_neg (by decide), Option.bind_some, if_neg (by decide)]
    split <;> rfl
end Go.Proofs.Ytikicibbbeofnaa.Pure
