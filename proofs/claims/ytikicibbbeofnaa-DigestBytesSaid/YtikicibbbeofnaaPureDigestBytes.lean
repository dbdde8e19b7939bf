/- At most 200 bytes of the same length that differ in exactly one byte have different digests, and so have at most 7 bytes, and the same with a zero behind them: the statement DigestBytes, for all inputs. -/
import Derived.Test.YtikicibbbeofnaaDb
import Derived.Test.YtikicibbbeofnaaD6
namespace Go.Proofs.Ytikicibbbeofnaa.Pure
open Go.RowKit Go.Proofs.YtikicibbbeofnaaW.PrintWords Go.Proofs.YtikicibbbeofnaaW.PrintLast Go.Proofs.Ytikicibbbeofnaa.D Go.Proofs.Ytikicibbbeofnaa.Dg Go.Proofs.Ytikicibbbeofnaa.Dh
theorem wf_u8 {a : Int} (h : (Lit.int .u8 a).wf = true) : 0 ≤ a ∧ a < 256 := by
  simp [Lit.wf, IntKind.min, IntKind.max, IntKind.bits, IntKind.signed] at h
  omega
theorem and_mask (i : Int) : ∃ m : Nat, Go.bits .and .i64 i 1023 = m := by
  have h : Go.bits .and .i64 i 1023 = (((BitVec.ofInt 64 i &&& BitVec.ofInt 64 1023).toNat : Nat) : Int) := by
    show IntKind.i64.wrap (((BitVec.ofInt 64 i &&& BitVec.ofInt 64 1023).toNat : Nat) : Int) = _
    have h2 : (BitVec.ofInt 64 i &&& BitVec.ofInt 64 1023).toNat ≤ 1023 := by
      rw [BitVec.toNat_and]
      exact Nat.le_trans Nat.and_le_right (by decide)
    rw [IntKind.wrap_i64]
    omega
  exact ⟨_, h⟩
theorem bytes_differ (l : List Int) (j : Nat) (x : Int) (hb : Bytey l) (hj : j < l.length) (x0 : 0 ≤ x) (x1 : x < 256) :
    ((T (bytesW l.length (initW l.length) l) == T (bytesW (l.set j x).length (initW (l.set j x).length) (l.set j x))) != (x == rd l j)) = false := by
  rw [T_beq, List.length_set]
  by_cases e : x = rd l j
  · have hs : l.set j x = l := by
      rw [e]; unfold rd
      simp [List.getD_eq_getElem?_getD, hj]
    rw [hs, beq_iff_eq.2 e]; simp
  · have h1 : ¬ bytesW l.length (initW l.length) l = bytesW l.length (initW l.length) (l.set j x) := fun h => bytesW_set l.length _ l j x (Nat.le_refl _) hj hb x0 x1 e h.symm
    rw [beq_eq_false_iff_ne.2 h1, beq_eq_false_iff_ne.2 e]; rfl
theorem bytes_longer (l : List Int) (hb : Bytey l) (h0 : l ≠ []) (h8 : l.length < 8) :
    ¬ T (bytesW l.length (initW l.length) l) = T (bytesW (l ++ [0]).length (initW (l ++ [0]).length) (l ++ [0])) := by
  intro h
  have h := T_inj h
  have hr : ∀ i : Nat, rd (l ++ [0]) i = rd l i := by
    intro i
    unfold rd
    simp only [Int.toNat_natCast, List.getD_eq_getElem?_getD]
    by_cases hi : i < l.length
    · rw [List.getElem?_append_left hi]
    · rw [List.getElem?_append_right (by omega), List.getElem?_eq_none (l := l) (by omega)]
      by_cases hz : i - l.length = 0
      · rw [hz]; rfl
      · rw [List.getElem?_eq_none (by simp; omega)]
  have hb' : Bytey (l ++ [0]) := fun i => by rw [hr]; exact hb i
  have hw : bwordTo (l ++ [0]) 8 = bwordTo l 8 := by
    rw [bword_val hb 8 (by omega), bword_val hb' 8 (by omega)]
    exact bval_congr 8 fun i _ => hr i
  have one : ∀ (n : Nat) (g : W) (m : List Int), m ≠ [] → m.length ≤ 8 → bytesW (n + 1) g m = stepW g (F (bwordTo m 8)) := by
    intro n g m hm h8
    unfold bytesW
    rw [if_neg hm, List.drop_of_length_le h8]
    cases n <;> rfl
  obtain ⟨n, hn⟩ : ∃ n, l.length = n + 1 := ⟨l.length - 1, by have := List.length_pos_iff.2 h0; omega⟩
  have e1 := one n (initW l.length) l h0 (by omega)
  have e2 := one l.length (initW (l ++ [0]).length) (l ++ [0]) (by simp) (by simp; omega)
  rw [← hn] at e1
  rw [show l.length + 1 = (l ++ [0]).length from by simp] at e2
  rw [e1, e2, hw] at h
  have h := (stepW_inj_left _ _ _).1 h
  unfold initW at h
  have h := (stepW_inj_right _ _ _).1 h
  have := F_u64_inj (by omega) (by omega) (by omega) (by simp; omega) h
  simp at this
  omega
theorem DigestBytes : parolelaw03_DigestBytes.Pure := by
  intro l i x _ _ hl hi hx
  have hb := bytey_of hl
  obtain ⟨x0, x1⟩ := wf_u8 hx
  refine ⟨99, ?_⟩
  unfold parolelaw03_DigestBytes.f
  rw [examples_true, Option.bind_some, if_pos rfl]
  by_cases h0 : (l.length : Int) = 0
  · rw [if_pos h0]; simp only [parolelaw03_DigestBytes.j0]; rfl
  by_cases h60 : (l.length : Int) > 200
  · rw [if_neg h0, decide_eq_true h60]; simp only [parolelaw03_DigestBytes.j0]; rfl
  rw [if_neg h0, decide_eq_false h60]
  simp only [parolelaw03_DigestBytes.j0]
  rw [if_neg (by simp), if_neg h0]
  have hpos : 0 < l.length := by omega
  obtain ⟨j, hj, hjl⟩ : ∃ j : Nat, (Int.tmod (Go.bits .and .i64 i 1023) (l.length : Int)) = j ∧ j < l.length := by
    obtain ⟨m, hm⟩ := and_mask i
    refine ⟨m % l.length, ?_, Nat.mod_lt _ hpos⟩
    rw [hm]; rfl
  rw [hj]
  simp only [Option.bind_some, List.nil_append, Int.toNat_natCast]
  rw [if_pos (by simp; omega), if_pos (by omega), if_pos (by omega), bytes_f, Option.bind_some, bytes_f, Option.bind_some, if_pos (by omega), bytes_differ l j x hb hjl x0 x1, if_neg (by simp)]
  by_cases h8 : (l.length : Int) ≥ 8
  · rw [if_pos h8]
  · rw [if_neg h8, Option.bind_some, if_pos (by simp; omega), if_pos (by omega), bytes_f, Option.bind_some, if_neg (bytes_longer l hb (fun e => by subst e; simp at hpos) (by omega))]
end Go.Proofs.Ytikicibbbeofnaa.Pure
