/- Parse inverts Text, different numbers have different texts, and a text with another byte is that of another number or is refused: the statement DigestTexts, for all inputs. -/
import Derived.Test.YtikicibbbeofnaaDz
import Derived.Test.YtikicibbbeofnaaStDigestTexts
namespace Go.Proofs.Ytikicibbbeofnaa.Pure
open Go.RowKit Go.Proofs.YtikicibbbeofnaaW.PrintWords Go.Proofs.YtikicibbbeofnaaW.PrintLast Go.Proofs.Ytikicibbbeofnaa.D Go.Proofs.Ytikicibbbeofnaa.Dg Go.Proofs.Ytikicibbbeofnaa.Dh
theorem wf_u8' {a : Int} (h : (Lit.int .u8 a).wf = true) : 0 ≤ a ∧ a < 256 := by
  simp [Lit.wf, IntKind.min, IntKind.max, IntKind.bits, IntKind.signed] at h
  omega
theorem parsed_text (x : Nat) (hx : x < 18446744073709551616) (k : Nat) (hk : 17 < k) : parolelaw03_parsed.f k (hs (hdigs x)) = some ((x : Int), 0) := by
  rw [parsed_f _ k hk, if_pos (by rw [hs_size, hdigs_length]), parse_text x hx]; rfl
theorem parsed_short (s : ByteArray) (h : s.size ≠ 16) (k : Nat) (hk : 17 < k) : parolelaw03_parsed.f k s = some (0, 3) := by
  rw [parsed_f _ k hk, if_neg h]
theorem text_beq (x y : Nat) (hx : x < 18446744073709551616) (hy : y < 18446744073709551616) : (((hs (hdigs y)).toList == (hs (hdigs x)).toList) != ((x : Int) == (y : Int))) = false := by
  by_cases e : x = y
  · subst e; simp
  · have h1 : ¬ (hs (hdigs y)).toList = (hs (hdigs x)).toList := by
      intro h
      have := hs_inj (hdigs_lt y) (hdigs_lt x) (toList_inj h)
      have h2 := congrArg hfold this
      rw [hfold_hdigs y hy, hfold_hdigs x hx] at h2
      exact e h2.symm
    have h2 : ¬ (x : Int) = (y : Int) := by omega
    rw [beq_eq_false_iff_ne.2 h1, beq_eq_false_iff_ne.2 h2]; rfl
theorem DigestTexts : parolelaw03_DigestTexts.Pure := by
  intro a b w v ha hb hw hv
  obtain ⟨a0, a1⟩ := wf_u64 ha
  obtain ⟨b0, b1⟩ := wf_u64 hb
  obtain ⟨w0, w1⟩ := wf_u8' hw
  obtain ⟨x, rfl⟩ := Int.eq_ofNat_of_zero_le a0
  obtain ⟨y, rfl⟩ := Int.eq_ofNat_of_zero_le b0
  obtain ⟨u, rfl⟩ := Int.eq_ofNat_of_zero_le w0
  have hx : x < 18446744073709551616 := by omega
  have hy : y < 18446744073709551616 := by omega
  have hz : (hs (hdigs x)).size = 16 := by rw [hs_size, hdigs_length]
  refine ⟨99, ?_⟩
  unfold parolelaw03_DigestTexts.f
  rw [examples_true, Option.bind_some, if_pos rfl, text_f x hx, Option.bind_some, if_pos (by omega), parsed_text x hx 99 (by omega), Option.bind_some, if_neg (by simp), text_f y hy, Option.bind_some, text_beq x y hx hy]
  have e1 : wrap64 (Int.tmod (u : Int) 16) = ((u % 16 : Nat) : Int) := by
    have : Int.tmod (u : Int) 16 = ((u % 16 : Nat) : Int) := rfl
    rw [this]; unfold wrap64; omega
  have hu : u % 16 < 16 := Nat.mod_lt _ (by decide)
  generalize u % 16 = m at e1 hu
  have e2 : wrap64 ((m : Int) + 1) = ((m + 1 : Nat) : Int) := by unfold wrap64; omega
  generalize hT : hs (hdigs x) = s at hz
  rw [parolelaw03_DigestTexts.j0, if_neg (by simp), e1, e2]
  clear e1 e2 hw
  rw [if_pos (by omega), if_pos (by omega), Option.bind_some, Int.toNat_natCast, Int.toNat_natCast]
  have hs1 : (strOfNums [v]).size = 1 := by rw [strOfNums_size]; rfl
  have z1 : (s.extract 0 m).size = m := by rw [ByteArray.size_extract]; omega
  have z2 : (s.extract (m + 1) s.size).size = 15 - m := by rw [ByteArray.size_extract]; omega
  have z3 : (s.extract 0 m ++ strOfNums [v] ++ s.extract (m + 1) s.size).size = 16 := by rw [ByteArray.size_append, ByteArray.size_append, z1, z2, hs1]; omega
  rw [if_pos (by rw [z1, hs1]; omega), if_pos (by omega), if_pos (by omega), if_pos (by rw [ByteArray.size_append, z1, z2, hs1]; omega), parsed_f _ 98 (by omega), if_pos z3, Option.bind_some]
  generalize hZ : s.extract 0 m ++ strOfNums [v] ++ s.extract (m + 1) s.size = z at z3
  cases hp : pfold z 16 0 0 with
  | some Y =>
    obtain ⟨h1, h2⟩ := parse_found z3 hp
    show (if (0 : Int) = 0 then (digest_Text.f (Y : Int)).bind _ else _) = _
    rw [if_pos rfl, text_f Y h2, Option.bind_some, ← h1, if_pos rfl, if_pos (by omega), parsed_short _ (by rw [ByteArray.size_append, hz]; decide) 98 (by omega), Option.bind_some, if_pos rfl]
  | none =>
    show (if (3 : Int) = 0 then _ else if ((0 : Int) == 0 && ((3 : Int) == 3)) = true then (parolelaw03_parsed.f 98 (s.extract 0 m)).bind _ else _) = _
    rw [if_neg (by decide), if_pos (by decide), parsed_short _ (by rw [z1]; omega) 98 (by omega), Option.bind_some, if_pos rfl]
end Go.Proofs.Ytikicibbbeofnaa.Pure
