/- With another number at a place, the path of this place is the same, and leads to the root of the changed list: for every list of up to 300 numbers, each place and each number. -/
import Derived.Test.YtikicibbbeofnaaMb
import Derived.Test.YtikicibbbeofnaaStMerkleChanges
namespace Go.Proofs.Ytikicibbbeofnaa.Pure
open Go.RowKit Go.Proofs.YtikicibbbeofnaaW.PrintWords Go.Proofs.YtikicibbbeofnaaW.PrintLast Go.Proofs.YtikicibbbeofnaaW.PrintMore Go.Proofs.Ytikicibbbeofnaa.D
theorem MerkleChanges : parolelaw04_MerkleChanges.Pure := by
  intro l a b v hl hl8 hlw ha hb hv
  obtain ⟨a0, a1⟩ := wf_u16 ha
  obtain ⟨b0, b1⟩ := wf_u16 hb
  obtain ⟨a, rfl⟩ := Int.eq_ofNat_of_zero_le a0
  obtain ⟨b, rfl⟩ := Int.eq_ofNat_of_zero_le b0
  obtain ⟨r, hg, hr, _⟩ := grown_f l (1 + a % 300) 9998 (by omega) (by omega) (by omega)
  refine ⟨9998, ?_⟩
  unfold parolelaw04_MerkleChanges.f
  have hex : parolelaw04_examples.f 9998 = some true := ex4_at 9968
  have hw : wrap64 (1 + wrap64 (Int.tmod (a : Int) 300)) = ((1 + a % 300 : Nat) : Int) := by
    rw [show (300 : Int) = ((300 : Nat) : Int) from rfl, tmod_nat, wrap64_of (n := ((a % 300 : Nat) : Int)) (by omega) (by omega), wrap64_of (by omega) (by omega)]; omega
  rw [hex, Option.bind_some, if_pos rfl, hw, hg, Option.bind_some]
  have hN : r.length ≤ 4096 := by omega
  have hm : Int.tmod (wrap64 (b : Int)) (r.length : Int) = ((b % r.length : Nat) : Int) := by rw [wrap64_of (by omega) (by omega), tmod_nat]
  have hlt : b % r.length < r.length := Nat.mod_lt _ (by omega)
  rw [hm]
  generalize b % r.length = i at hlt ⊢
  have hd := dirs_down r.length r i
  have hs := dirs_small r.length r.length i 12 (by omega)
  have hsl : (r.set i v).length = r.length := List.length_set
  rw [if_neg (by omega), open_f r i hN hlt]
  simp only [Option.bind_some, List.nil_append, List.length_nil, Int.toNat_natCast, Nat.zero_add]
  rw [if_pos (by omega), if_pos (by omega), if_pos (by omega), open_f (r.set i v) i (by omega) (by omega), Option.bind_some]
  rw [hsl, down_set]
  simp only []
  rw [if_pos trivial, same_self _ _ (by rw [List.length_reverse]; omega) (by rw [List.length_reverse]; omega), Option.bind_some, if_pos rfl, root_f _ (by omega), Option.bind_some]
  have hc := check_own (r.set i v) i (by omega) (by omega)
  rw [hsl, down_set, rd_set_ hlt] at hc
  rw [hsl, hc, Option.bind_some, if_pos rfl]
end Go.Proofs.Ytikicibbbeofnaa.Pure
