/- The path of each place of a list is accepted for its root, and has at most 12 elements: for every list, and every place, of up to 4096 numbers. -/
import Derived.Test.YtikicibbbeofnaaMb
import Derived.Test.YtikicibbbeofnaaD14
namespace Go.Proofs.Ytikicibbbeofnaa.Pure
open Go.RowKit Go.Proofs.YtikicibbbeofnaaW.PrintWords Go.Proofs.YtikicibbbeofnaaW.PrintLast Go.Proofs.YtikicibbbeofnaaW.PrintMore Go.Proofs.Ytikicibbbeofnaa.D
theorem MerkleOpens : parolelaw04_MerkleOpens.Pure := by
  intro l a b hl hl8 hlw ha hb
  obtain ⟨a0, a1⟩ := wf_u16 ha
  obtain ⟨b0, b1⟩ := wf_u16 hb
  obtain ⟨a, rfl⟩ := Int.eq_ofNat_of_zero_le a0
  obtain ⟨b, rfl⟩ := Int.eq_ofNat_of_zero_le b0
  obtain ⟨r, hg, hr, _⟩ := grown_f l (1 + a % 4096) 9998 (by omega) (by omega) (by omega)
  refine ⟨9998, ?_⟩
  unfold parolelaw04_MerkleOpens.f
  have hex : parolelaw04_examples.f 9998 = some true := ex4_at 9968
  have hw : wrap64 (1 + wrap64 (Int.tmod (a : Int) 4096)) = ((1 + a % 4096 : Nat) : Int) := by
    rw [show (4096 : Int) = ((4096 : Nat) : Int) from rfl, tmod_nat, wrap64_of (n := ((a % 4096 : Nat) : Int)) (by omega) (by omega), wrap64_of (by omega) (by omega)]; omega
  rw [hex, Option.bind_some, if_pos rfl, hw, hg, Option.bind_some]
  have hN : r.length ≤ 4096 := by omega
  rw [if_neg (by omega), root_f r hN, Option.bind_some]
  have hm : Int.tmod (wrap64 (b : Int)) (r.length : Int) = ((b % r.length : Nat) : Int) := by rw [wrap64_of (by omega) (by omega), tmod_nat]
  have hlt : b % r.length < r.length := Nat.mod_lt _ (by omega)
  rw [hm]
  generalize b % r.length = i at hlt ⊢
  rw [open_f r i hN hlt, Option.bind_some]
  simp only []
  rw [if_pos trivial]
  have hd := dirs_down r.length r i
  have hs := dirs_small r.length r.length i 12 (by omega)
  rw [if_neg (by rw [List.length_reverse]; omega), if_pos (by omega), if_pos (by omega), check_own r i hN hlt, Option.bind_some]
  simp only [parolelaw04_MerkleOpens.j0]
  rw [if_neg (by decide)]
  by_cases h1 : (r.length : Int) = 1
  · have hz : dirs r.length r.length i = [] := by
      have e : r.length = 0 + 1 := by omega
      rw [e]; rfl
    rw [hz] at hd
    rw [if_pos h1, if_pos (by rw [List.length_reverse, hd]; rfl)]
  · rw [if_neg h1]
end Go.Proofs.Ytikicibbbeofnaa.Pure
