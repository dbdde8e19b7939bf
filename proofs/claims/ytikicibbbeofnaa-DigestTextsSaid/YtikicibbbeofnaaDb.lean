/- The digest of bytes, as the function answers it: what it tells apart. -/
import Derived.Test.YtikicibbbeofnaaDw
import Derived.Test.YtikicibbbeofnaaD5
namespace Go.Proofs.Ytikicibbbeofnaa.Dh
open Go.RowKit Go.Proofs.YtikicibbbeofnaaW.PrintWords Go.Proofs.YtikicibbbeofnaaW.PrintLast Go.Proofs.Ytikicibbbeofnaa.D Go.Proofs.Ytikicibbbeofnaa.Dg
def Bytey (l : List Int) : Prop := ∀ i : Nat, 0 ≤ rd l i ∧ rd l i < 256
theorem bytey_of {l : List Int} (h : ∀ x ∈ l, (Lit.int .u8 x).wf = true) : Bytey l := by
  intro i
  unfold rd
  simp only [Int.toNat_natCast]
  by_cases hi : i < l.length
  · have := h l[i] (List.getElem_mem hi)
    simp [Lit.wf, IntKind.min, IntKind.max, IntKind.bits, IntKind.signed] at this
    simp [hi]; omega
  · simp [hi]
def bval (l : List Int) : Nat → Int
  | 0 => 0
  | k + 1 => bval l k + rd l k * 2 ^ (8 * k)
theorem pow_step (k : Nat) : (2 : Int) ^ (8 * (k + 1)) = 256 * 2 ^ (8 * k) := by
  rw [Nat.mul_add, Int.pow_add]; omega
theorem pow_pos8 (k : Nat) : (0 : Int) < 2 ^ (8 * k) := by
  exact Int.pow_pos (by decide)
theorem bval_range {l : List Int} (h : Bytey l) : ∀ k, 0 ≤ bval l k ∧ bval l k < 2 ^ (8 * k)
  | 0 => by simp [bval]
  | k + 1 => by
    obtain ⟨h0, h1⟩ := bval_range h k
    obtain ⟨r0, r1⟩ := h k
    have hp := pow_pos8 k
    rw [pow_step]
    unfold bval
    have m0 : 0 ≤ rd l k * 2 ^ (8 * k) := Int.mul_nonneg r0 (by omega)
    have m1 : rd l k * 2 ^ (8 * k) ≤ 255 * 2 ^ (8 * k) := Int.mul_le_mul_of_nonneg_right (by omega) (by omega)
    omega
theorem pow64 (k : Nat) (hk : k ≤ 8) : (2 : Int) ^ (8 * k) ≤ 18446744073709551616 := by
  have : k = 0 ∨ k = 1 ∨ k = 2 ∨ k = 3 ∨ k = 4 ∨ k = 5 ∨ k = 6 ∨ k = 7 ∨ k = 8 := by omega
  rcases this with rfl | rfl | rfl | rfl | rfl | rfl | rfl | rfl | rfl <;> decide
theorem or_add (x y : Int) (k : Nat) (hx0 : 0 ≤ x) (hx : x < 2 ^ (8 * k)) (hy0 : 0 ≤ y) (hs : x + y * 2 ^ (8 * k) < 18446744073709551616) :
    Go.bits .or .u64 x (IntKind.u64.wrap (y * 2 ^ (8 * k))) = x + y * 2 ^ (8 * k) := by
  obtain ⟨a, rfl⟩ := Int.eq_ofNat_of_zero_le hx0
  obtain ⟨b, rfl⟩ := Int.eq_ofNat_of_zero_le hy0
  have hp : (2 : Int) ^ (8 * k) = ((2 ^ (8 * k) : Nat) : Int) := by rw [Int.natCast_pow]; rfl
  rw [hp] at hx hs ⊢
  have hx' : a < 2 ^ (8 * k) := by exact_mod_cast hx
  have hs' : a + b * 2 ^ (8 * k) < 18446744073709551616 := (by have h9 := hs; rw [show (18446744073709551616 : Int) = ((18446744073709551616 : Nat) : Int) from rfl, ← Int.natCast_mul, ← Int.natCast_add, Int.ofNat_lt] at h9; exact h9)
  have e1 : ((b : Int) * ((2 ^ (8 * k) : Nat) : Int)) = ((b * 2 ^ (8 * k) : Nat) : Int) := (Int.natCast_mul _ _).symm
  rw [e1, wrap_T, T_F_self (by omega) (by omega), or_T]
  have e2 : F ((a : Nat) : Int) = BitVec.ofNat 64 a := by unfold F; exact BitVec.ofInt_natCast 64 a
  have e3 : F ((b * 2 ^ (8 * k) : Nat) : Int) = BitVec.ofNat 64 (b * 2 ^ (8 * k)) := by unfold F; exact BitVec.ofInt_natCast 64 _
  rw [e2, e3]
  unfold T
  rw [BitVec.toNat_or, BitVec.toNat_ofNat, BitVec.toNat_ofNat, Nat.mod_eq_of_lt (by omega), Nat.mod_eq_of_lt (by omega), Nat.or_comm, Nat.mul_comm, ← Nat.two_pow_add_eq_or_of_lt hx' b]
  simp
  omega
theorem bword_val {l : List Int} (h : Bytey l) : ∀ k, k ≤ 8 → bwordTo l k = bval l k
  | 0, _ => rfl
  | k + 1, hk => by
    obtain ⟨h0, h1⟩ := bval_range h k
    obtain ⟨q0, q1⟩ := bval_range h (k + 1)
    obtain ⟨r0, r1⟩ := h k
    have hb := pow64 (k + 1) hk
    unfold bwordTo
    rw [bword_val h k (by omega), wrap_T (rd l k), T_F_self r0 (by omega), or_add _ _ k h0 h1 r0 (by unfold bval at q1; omega)]
    rfl
theorem bval_inj {a b : List Int} (ha : Bytey a) (hb : Bytey b) : ∀ k, bval a k = bval b k → ∀ i, i < k → rd a i = rd b i
  | 0, _, i, hi => by omega
  | k + 1, h, i, hi => by
    obtain ⟨h0, h1⟩ := bval_range ha k
    obtain ⟨g0, g1⟩ := bval_range hb k
    unfold bval at h
    have hp := pow_pos8 k
    have e : rd a k = rd b k := by
      have e1 : (bval a k + rd a k * 2 ^ (8 * k)) / 2 ^ (8 * k) = rd a k := by
        rw [Int.add_mul_ediv_right _ _ (by omega), Int.ediv_eq_zero_of_lt h0 h1]; omega
      have e2 : (bval b k + rd b k * 2 ^ (8 * k)) / 2 ^ (8 * k) = rd b k := by
        rw [Int.add_mul_ediv_right _ _ (by omega), Int.ediv_eq_zero_of_lt g0 g1]; omega
      rw [← e1, ← e2, h]
    by_cases hik : i = k
    · subst hik; exact e
    · exact bval_inj ha hb k (by rw [e] at h; omega) i (by omega)
theorem bval_congr {a b : List Int} : ∀ k, (∀ i : Nat, i < k → rd a i = rd b i) → bval a k = bval b k
  | 0, _ => rfl
  | k + 1, h => by
    unfold bval
    rw [bval_congr k (fun i hi => h i (by omega)), h k (by omega)]
theorem stepV_T (a b : Int) : stepV a b = T (stepW (F a) (F b)) := Option.some.inj ((stepV_f a b).symm.trans (step_f a b))
def bytesW : Nat → W → List Int → W
  | 0, h, _ => h
  | n + 1, h, l => if l = [] then h else bytesW n (stepW h (F (bwordTo l 8))) (l.drop 8)
theorem bytesFrom_T : ∀ (n : Nat) (h : W) (l : List Int), bytesFrom n (T h) l = T (bytesW n h l)
  | 0, _, _ => rfl
  | n + 1, h, l => by
    unfold bytesFrom bytesW
    by_cases e : l = []
    · rw [if_pos e, if_pos e]
    · rw [if_neg e, if_neg e, stepV_T, F_T, bytesFrom_T]
theorem bytesW_inj : ∀ (n : Nat) (g h : W) (l : List Int), bytesW n g l = bytesW n h l ↔ g = h
  | 0, _, _, _ => Iff.rfl
  | n + 1, g, h, l => by
    unfold bytesW
    by_cases e : l = []
    · rw [if_pos e, if_pos e]
    · rw [if_neg e, if_neg e, bytesW_inj, stepW_inj_left]
theorem rd_set (l : List Int) (k : Nat) (v : Int) (i : Nat) (hk : k < l.length) : rd (l.set k v) i = if i = k then v else rd l i := by
  unfold rd
  simp only [Int.toNat_natCast, List.getD_eq_getElem?_getD, List.getElem?_set]
  by_cases h : k = i
  · subst h; simp [hk]
  · rw [if_neg h, if_neg (fun e => h e.symm)]
theorem bytey_set {l : List Int} (h : Bytey l) (k : Nat) (v : Int) (hk : k < l.length) (v0 : 0 ≤ v) (v1 : v < 256) : Bytey (l.set k v) := by
  intro i
  rw [rd_set l k v i hk]
  by_cases e : i = k
  · rw [if_pos e]; omega
  · rw [if_neg e]; exact h i
theorem rd_drop' (l : List Int) (j i : Nat) : rd (l.drop j) i = rd l ((j + i : Nat) : Int) := by
  unfold rd
  simp only [Int.toNat_natCast, List.getD_eq_getElem?_getD, List.getElem?_drop]
theorem bytey_drop {l : List Int} (h : Bytey l) (j : Nat) : Bytey (l.drop j) := by
  intro i
  rw [rd_drop']; exact h _
theorem F_u64_inj {a b : Int} (a0 : 0 ≤ a) (a1 : a < 18446744073709551616) (b0 : 0 ≤ b) (b1 : b < 18446744073709551616) (h : F a = F b) : a = b := by
  have := congrArg T h
  rwa [T_F_self a0 a1, T_F_self b0 b1] at this
theorem bword_range {l : List Int} (h : Bytey l) : 0 ≤ bwordTo l 8 ∧ bwordTo l 8 < 18446744073709551616 := by
  rw [bword_val h 8 (by omega)]
  have h1 := bval_range h 8
  have h2 := pow64 8 (by omega)
  omega
theorem bytesW_set : ∀ (n : Nat) (h : W) (l : List Int) (k : Nat) (v : Int), l.length ≤ n → k < l.length → Bytey l → 0 ≤ v → v < 256 → v ≠ rd l k → bytesW n h (l.set k v) ≠ bytesW n h l
  | 0, _, l, k, _, hn, hk, _, _, _, _ => by omega
  | n + 1, h, l, k, v, hn, hk, hb, v0, v1, hv => by
    have hl : l ≠ [] := fun e => by subst e; simp at hk
    have hs : l.set k v ≠ [] := fun e => by have := congrArg List.length e; simp at this; exact hl this
    have hb' := bytey_set hb k v hk v0 v1
    unfold bytesW
    rw [if_neg hl, if_neg hs]
    by_cases h8 : k < 8
    · have hd : (l.set k v).drop 8 = l.drop 8 := by rw [List.drop_set, if_pos h8]
      rw [hd]
      intro e
      have e2 := (stepW_inj_right _ _ _).1 ((bytesW_inj n _ _ _).1 e)
      obtain ⟨x0, x1⟩ := bword_range hb
      obtain ⟨y0, y1⟩ := bword_range hb'
      have e3 := F_u64_inj y0 y1 x0 x1 e2
      rw [bword_val hb 8 (by omega), bword_val hb' 8 (by omega)] at e3
      have e4 := bval_inj hb' hb 8 e3 k h8
      rw [rd_set l k v k hk, if_pos rfl] at e4
      exact hv e4
    · have hw : bwordTo (l.set k v) 8 = bwordTo l 8 := by
        rw [bword_val hb 8 (by omega), bword_val hb' 8 (by omega)]
        refine bval_congr 8 fun i hi => ?_
        rw [rd_set l k v i hk, if_neg (by omega)]
      have hd : (l.set k v).drop 8 = (l.drop 8).set (k - 8) v := by rw [List.drop_set, if_neg h8]
      rw [hw, hd]
      refine bytesW_set n _ _ (k - 8) v (by simp; omega) (by simp; omega) (bytey_drop hb 8) v0 v1 ?_
      rw [rd_drop', show 8 + (k - 8) = k from by omega]
      exact hv
def initW (n : Nat) : W := stepW (F 1376283091369227076) (F (n : Int))
theorem bytes_f (l : List Int) : digest_Bytes.f l = some (T (bytesW l.length (initW l.length) l)) := by
  unfold digest_Bytes.f
  rw [stepV_T, wrap_T, F_T, bytesFrom_T]
  rfl
end Go.Proofs.Ytikicibbbeofnaa.Dh
