/- Lists of at most 60 words of the same length that differ in exactly one word have different digests, and equal ones have the same: the statement DigestLists, for all inputs. -/
import Derived.Test.YtikicibbbeofnaaDw
import Derived.Test.YtikicibbbeofnaaD4
namespace Go.Proofs.Ytikicibbbeofnaa.Pure
open Go.RowKit Go.Proofs.YtikicibbbeofnaaW.PrintWords Go.Proofs.YtikicibbbeofnaaW.PrintLast Go.Proofs.Ytikicibbbeofnaa.D Go.Proofs.Ytikicibbbeofnaa.Dg Go.Proofs.Ytikicibbbeofnaa.Dh
theorem wf_i64 {a : Int} (h : (Lit.int .i64 a).wf = true) : -9223372036854775808 ≤ a ∧ a < 9223372036854775808 := by
  simp [Lit.wf, IntKind.min, IntKind.max, IntKind.bits, IntKind.signed] at h
  omega
theorem F_inj_i64 {a b : Int} (ha : -9223372036854775808 ≤ a ∧ a < 9223372036854775808) (hb : -9223372036854775808 ≤ b ∧ b < 9223372036854775808) : F a = F b ↔ a = b := by
  refine ⟨fun h => ?_, fun h => by rw [h]⟩
  have := congrArg T h
  rw [T_F, T_F] at this
  omega
theorem wordsW_set (l : List Int) (j : Nat) (hj : j < l.length) (x : Int) : wordsW (l.set j x) = wordsW l ↔ F x = F (rd l j) := by
  have e1 : l.set j x = l.take j ++ x :: l.drop (j + 1) := List.set_eq_take_append_cons_drop.trans (if_pos hj)
  have e2 : l = l.take j ++ rd l j :: l.drop (j + 1) := by rw [← rd_drop l j hj, List.take_append_drop]
  unfold wordsW
  rw [List.length_set, e1]
  generalize hh : stepW (F 2611923443488327891) (F l.length) = h
  clear hh
  conv => lhs; rhs; rw [e2]
  rw [wordsFrom_append, wordsFrom_append]
  show wordsFrom (stepW _ (F x)) _ = wordsFrom (stepW _ (F (rd l j))) _ ↔ _
  rw [wordsFrom_inj, stepW_inj_right]
theorem wordsW_beq (l : List Int) (j : Nat) (hj : j < l.length) (x : Int) (hx : (Lit.int .i64 x).wf = true) (hl : ∀ y ∈ l, (Lit.int .i64 y).wf = true) :
    ((T (wordsW l) == T (wordsW (l.set j x))) == (x == rd l j)) = true := by
  have hr : (Lit.int .i64 (rd l j)).wf = true := hl _ (by unfold rd; simp [hj])
  have hi := F_inj_i64 (wf_i64 hx) (wf_i64 hr)
  have hw := wordsW_set l j hj x
  rw [T_beq]
  by_cases e : x = rd l j
  · have : wordsW (l.set j x) = wordsW l := hw.2 (hi.2 e)
    rw [this, beq_iff_eq.2 e]; simp
  · have : ¬ wordsW l = wordsW (l.set j x) := fun h => e (hi.1 (hw.1 h.symm))
    rw [beq_eq_false_iff_ne.2 this, beq_eq_false_iff_ne.2 e]; rfl
theorem DigestLists : parolelaw03_DigestLists.Pure := by
  intro l i x _ _ hl hi hx
  refine ⟨99, ?_⟩
  unfold parolelaw03_DigestLists.f
  rw [examples_true, Option.bind_some, if_pos rfl]
  by_cases h0 : (l.length : Int) = 0
  · rw [if_pos h0]; simp only [parolelaw03_DigestLists.j0]; rfl
  by_cases h60 : (l.length : Int) > 60
  · rw [if_neg h0, decide_eq_true h60]; simp only [parolelaw03_DigestLists.j0]; rfl
  rw [if_neg h0, decide_eq_false h60]
  simp only [parolelaw03_DigestLists.j0]
  rw [if_neg (by simp), if_neg h0]
  have hpos : 0 < l.length := by omega
  obtain ⟨j, hj, hjl⟩ : ∃ j : Nat, (Int.tmod (Go.bits .and .i64 i 63) (l.length : Int)) = j ∧ j < l.length := by
    have h1 : 0 ≤ Go.bits .and .i64 i 63 := by
      have h : Go.bits .and .i64 i 63 = (((BitVec.ofInt 64 i &&& BitVec.ofInt 64 63).toNat : Nat) : Int) := by
        show IntKind.i64.wrap (((BitVec.ofInt 64 i &&& BitVec.ofInt 64 63).toNat : Nat) : Int) = _
        have h2 : (BitVec.ofInt 64 i &&& BitVec.ofInt 64 63).toNat ≤ 63 := by
          rw [BitVec.toNat_and]
          exact Nat.le_trans Nat.and_le_right (by decide)
        rw [IntKind.wrap_i64]
        omega
      rw [h]; omega
    obtain ⟨m, hm⟩ := Int.eq_ofNat_of_zero_le h1
    refine ⟨m % l.length, ?_, Nat.mod_lt _ hpos⟩
    rw [hm]; rfl
  rw [hj]
  have hw1 : wrap64 ((l.length : Int) - 1) = ((l.length - 1 : Nat) : Int) := by unfold wrap64; omega
  rw [hw1]
  have hlast : l.take (l.length - 1) ++ [x] = l.set (l.length - 1) x := by
    rw [List.set_eq_take_append_cons_drop, if_pos (by omega), List.drop_of_length_le (by omega)]
  simp only [Option.bind_some, List.nil_append, Int.toNat_natCast, hlast]
  rw [if_pos (by simp; omega), if_pos (by omega), if_pos (by omega), if_pos (by omega), if_pos (by omega), if_pos (by simp; omega), if_pos (by simp; omega),
    words_f l (by omega) 98 (by omega), Option.bind_some, words_f _ (by simp; omega) 98 (by simp; omega), Option.bind_some, words_f _ (by simp; omega) 98 (by simp; omega), Option.bind_some,
    if_pos (by omega), if_pos (wordsW_beq l j hjl x hx hl), if_pos (by simp; omega), Option.bind_some, if_pos rfl, if_pos (by omega), if_pos (wordsW_beq l (l.length - 1) (by omega) x hx hl)]
end Go.Proofs.Ytikicibbbeofnaa.Pure
