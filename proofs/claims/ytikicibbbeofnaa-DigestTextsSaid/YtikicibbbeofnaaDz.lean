/- The reference's functions of layer 3 answer as the program's do. -/
import Derived.Test.YtikicibbbeofnaaDy
import Derived.Test.YtikicibbbeofnaaDb
namespace Go.Proofs.Ytikicibbbeofnaa.Dh
open Go.RowKit Go.Proofs.YtikicibbbeofnaaW.PrintWords Go.Proofs.YtikicibbbeofnaaW.PrintLast Go.Proofs.YtikicibbbeofnaaW.PrintMore Go.Proofs.Ytikicibbbeofnaa.D Go.Proofs.Ytikicibbbeofnaa.Dg
theorem rstep_f (a b : Int) : paroleref03_Step.f a b = some (T (stepW (F a) (F b))) := step_f a b
theorem rstep_wrap (h : W) (n : Int) : paroleref03_Step.f (T h) (IntKind.u64.wrap n) = some (T (stepW h (F n))) := step_wrap h n
theorem rjoin_f (a b : Int) : paroleref03_Join.f a b = some (T (joinW (F a) (F b))) := by
  unfold paroleref03_Join.f
  rw [rstep_f, Option.bind_some, rstep_f, Option.bind_some, F_T]; rfl
theorem rwords_l0 (l : List Int) (hl : l.length ≤ 9223372036854775807) (d : Nat) : ∀ (k i : Nat) (h : W), l.length - i = d → i ≤ l.length → d < k →
    paroleref03_Words.l0 k l (T h) i = some (T (wordsFrom h (l.drop i))) := by
  induction d with
  | zero =>
    intro k i h hd hi hk
    obtain ⟨k, rfl⟩ : ∃ m, k = m + 1 := ⟨k - 1, by omega⟩
    simp only [paroleref03_Words.l0]
    rw [if_neg (by omega), List.drop_of_length_le (by omega)]; rfl
  | succ d ih =>
    intro k i h hd hi hk
    obtain ⟨k, rfl⟩ : ∃ m, k = m + 1 := ⟨k - 1, by omega⟩
    simp only [paroleref03_Words.l0]
    rw [if_pos (by omega), if_pos (by omega), rstep_wrap, Option.bind_some, wrap_up i l.length (by omega) hl, ih k (i + 1) _ (by omega) (by omega) (by omega), rd_drop l i (by omega)]
    rfl
theorem rwords_f (l : List Int) (hl : l.length ≤ 9223372036854775807) (k : Nat) (hk : l.length < k) : paroleref03_Words.f k l = some (T (wordsW l)) := by
  unfold paroleref03_Words.f
  rw [rstep_f, wrap_T, F_T, Option.bind_some]
  have := rwords_l0 l hl l.length k 0 (stepW (F 2611923443488327891) (F l.length)) (by omega) (by omega) hk
  rw [List.drop_zero] at this; exact this
/-! bytes -/
theorem bword_T (l : List Int) (k : Nat) : ∃ x : W, bwordTo l k = T x := by
  cases k with
  | zero => exact ⟨0, rfl⟩
  | succ k => exact ⟨_, or_T _ _⟩
theorem or_zero (x : W) : Go.bits .or .u64 (T x) 0 = T x := by
  rw [or_T, F_T]
  have : F 0 = 0#64 := rfl
  rw [this, BitVec.or_zero]
theorem bword_stop (l : List Int) (k : Nat) (h : l.length ≤ k) : ∀ n, bwordTo l (k + n) = bwordTo l k
  | 0 => rfl
  | n + 1 => by
    have h0 : rd l ((k + n : Nat) : Int) = 0 := by
      unfold rd
      rw [Int.toNat_natCast, List.getD_eq_getElem?_getD, List.getElem?_eq_none (by omega)]; rfl
    show Go.bits .or .u64 (bwordTo l (k + n)) (IntKind.u64.wrap (IntKind.u64.wrap (rd l ((k + n : Nat) : Int)) * 2 ^ (8 * (k + n)))) = _
    have h1 : IntKind.u64.wrap (IntKind.u64.wrap 0 * 2 ^ (8 * (k + n))) = 0 := by
      have : IntKind.u64.wrap 0 = 0 := by decide
      rw [this, Int.zero_mul, this]
    rw [h0, h1, bword_stop l k h n]
    obtain ⟨x, hx⟩ := bword_T l k
    rw [hx, or_zero]
theorem wrap_small (n : Nat) (h : n < 9223372036854775808) : wrap64 (n : Int) = n := by unfold wrap64; omega
theorem u64_small (n : Nat) (h : n < 9223372036854775808) : IntKind.u64.wrap (n : Int) = n := by rw [wrap_T, T_F_self (by omega) (by omega)]
theorem shl_at (a : Int) (j : Nat) (hj : j < 8) : shl .u64 a ((8 * j : Nat) : Int) = IntKind.u64.wrap (a * 2 ^ (8 * j)) := by
  unfold shl
  rw [Int.toNat_natCast, Nat.min_eq_left (by simp [IntKind.bits]; omega)]
theorem rbytes_l1 (l : List Int) (hl : l.length ≤ 200) (h : W) (i : Nat) (hi : i < l.length) (d : Nat) : ∀ (k j : Nat), 8 - j = d → j ≤ 8 → i + j ≤ l.length ∨ True → d < k →
    ∃ k', k ≤ k' + d + 1 ∧ k' < k ∧ (i + j ≤ l.length → paroleref03_Bytes.l1 k l (T h) i (bwordTo (l.drop i) j) j = paroleref03_Bytes.l0 k' l (T (stepW h (F (bwordTo (l.drop i) 8)))) ((i + 8 : Nat) : Int)) := by
  induction d with
  | zero =>
    intro k j hd hj _ hk
    obtain ⟨k, rfl⟩ : ∃ m, k = m + 1 := ⟨k - 1, by omega⟩
    obtain rfl : j = 8 := by omega
    refine ⟨k, by omega, by omega, fun _ => ?_⟩
    have e : wrap64 ((i : Int) + 8) = ((i + 8 : Nat) : Int) := by unfold wrap64; omega
    rw [paroleref03_Bytes.l1, if_neg (by decide), rstep_f, Option.bind_some, F_T, e]
  | succ d ih =>
    intro k j hd hj _ hk
    obtain ⟨k, rfl⟩ : ∃ m, k = m + 1 := ⟨k - 1, by omega⟩
    by_cases hij : i + j < l.length
    · obtain ⟨k', h1, h2, h3⟩ := ih k (j + 1) (by omega) (by omega) (.inr trivial) (by omega)
      refine ⟨k', by omega, by omega, fun _ => ?_⟩
      have e1 : wrap64 ((i : Int) + (j : Int)) = ((i + j : Nat) : Int) := by unfold wrap64; omega
      have e2 : wrap64 (8 * (j : Int)) = ((8 * j : Nat) : Int) := by unfold wrap64; omega
      have e3 : wrap64 ((j : Int) + 1) = ((j + 1 : Nat) : Int) := by unfold wrap64; omega
      have e4 := u64_small (8 * j) (by omega)
      rw [paroleref03_Bytes.l1, e1, e2, e3, e4]
      clear e1 e2 e3 e4
      rw [if_pos (by omega), if_pos (by omega), if_pos (by omega), if_pos (by omega), shl_at _ j (by omega)]
      have h4 := h3 (by omega)
      rw [← h4]
      congr 1
      show Go.bits .or .u64 (bwordTo (l.drop i) j) _ = Go.bits .or .u64 (bwordTo (l.drop i) j) (IntKind.u64.wrap (IntKind.u64.wrap (rd (l.drop i) (j : Int)) * 2 ^ (8 * j)))
      rw [rd_drop']
    · refine ⟨k, by omega, by omega, fun hle => ?_⟩
      have e1 : wrap64 ((i : Int) + (j : Int)) = ((i + j : Nat) : Int) := by unfold wrap64; omega
      have e : wrap64 ((i : Int) + 8) = ((i + 8 : Nat) : Int) := by unfold wrap64; omega
      rw [paroleref03_Bytes.l1, e1, e]
      clear e1 e
      have hs := bword_stop (l.drop i) j (by simp; omega) (8 - j)
      rw [show j + (8 - j) = 8 from by omega] at hs
      rw [if_pos (by omega), if_neg (by omega), rstep_f, Option.bind_some, F_T, ← hs]
theorem rbytes_l0 (l : List Int) (hl : l.length ≤ 200) (n : Nat) : ∀ (k i : Nat) (h : W), (l.drop i).length ≤ n → 11 * (l.length - i) + 11 ≤ k →
    paroleref03_Bytes.l0 k l (T h) i = some (T (bytesW n h (l.drop i))) := by
  induction n with
  | zero =>
    intro k i h hn hk
    obtain ⟨k, rfl⟩ : ∃ m, k = m + 1 := ⟨k - 1, by omega⟩
    simp at hn
    rw [paroleref03_Bytes.l0, if_neg (by omega)]; rfl
  | succ n ih =>
    intro k i h hn hk
    obtain ⟨k, rfl⟩ : ∃ m, k = m + 1 := ⟨k - 1, by omega⟩
    by_cases hi : i < l.length
    · rw [paroleref03_Bytes.l0, if_pos (by omega)]
      obtain ⟨k', h1, h2, h3⟩ := rbytes_l1 l hl h i hi 8 k 0 (by omega) (by omega) (.inr trivial) (by omega)
      have h4 := h3 (by omega)
      have hne : l.drop i ≠ [] := fun e => by have := congrArg List.length e; simp at this; omega
      show paroleref03_Bytes.l1 k l (T h) i (bwordTo (l.drop i) 0) ((0 : Nat) : Int) = _
      rw [h4, ih k' (i + 8) _ (by simp at hn ⊢; omega) (by omega)]
      unfold bytesW
      rw [if_neg hne, List.drop_drop]
      cases n <;> rfl
    · have he : l.drop i = [] := List.drop_of_length_le (by omega)
      rw [paroleref03_Bytes.l0, if_neg (by omega), he]; rfl
theorem rbytes_f (l : List Int) (hl : l.length ≤ 200) (k : Nat) (hk : 11 * l.length + 11 ≤ k) : paroleref03_Bytes.f k l = some (T (bytesW l.length (initW l.length) l)) := by
  unfold paroleref03_Bytes.f
  rw [rstep_f, wrap_T, F_T, Option.bind_some]
  have := rbytes_l0 l hl l.length k 0 (initW l.length) (by simp) (by omega)
  rw [List.drop_zero] at this; exact this
/-! back -/
def uit (y : W) (n : Nat) : Nat → W
  | 0 => y
  | k + 1 => y ^^^ (uit y n k >>> n)
theorem unsh_l0 (y : W) (n : Nat) (hn : n < 64) (d : Nat) : ∀ (k i : Nat), 64 - i = d → i ≤ 64 → d < k →
    paroleref03_unshifted.l0 k (T y) (n : Int) (T (uit y n i)) i = some (T (uit y n 64)) := by
  induction d with
  | zero =>
    intro k i hd hi hk
    obtain ⟨k, rfl⟩ : ∃ m, k = m + 1 := ⟨k - 1, by omega⟩
    obtain rfl : i = 64 := by omega
    rw [paroleref03_unshifted.l0, if_neg (by decide)]
  | succ d ih =>
    intro k i hd hi hk
    obtain ⟨k, rfl⟩ : ∃ m, k = m + 1 := ⟨k - 1, by omega⟩
    have e1 := u64_small n (by omega)
    have e2 : wrap64 ((i : Int) + 1) = ((i + 1 : Nat) : Int) := by unfold wrap64; omega
    have e3 : shr .u64 (T (uit y n i)) (n : Int) = T (uit y n i >>> n) := by
      unfold shr
      rw [Int.toNat_natCast, Nat.min_eq_left (by simp [IntKind.bits]; omega), ← shr_T, Int.natCast_pow]; rfl
    rw [paroleref03_unshifted.l0, e1, e2, e3, xor_T, F_T, F_T]
    clear e1 e2 e3
    rw [if_pos (by omega), if_pos (by omega)]
    exact ih k (i + 1) (by omega) (by omega) (by omega)
theorem unsh_f (y : W) (n : Nat) (hn : n < 64) (k : Nat) (hk : 64 < k) : paroleref03_unshifted.f k (T y) (n : Int) = some (T (uit y n 64)) :=
  unsh_l0 y n hn 64 k 0 (by omega) (by omega) hk
theorem uit32 (y : W) : ∀ k, uit y 32 (k + 1) = y ^^^ (y >>> 32)
  | 0 => rfl
  | k + 1 => by
    show y ^^^ (uit y 32 (k + 1) >>> 32) = _
    rw [uit32 y k]
    ext i hi
    simp only [BitVec.getElem_xor, BitVec.getElem_ushiftRight, BitVec.getLsbD_xor, BitVec.getLsbD_ushiftRight]
    rw [BitVec.getLsbD_of_ge y (32 + (32 + i)) (by omega), Bool.xor_false]
theorem uit29 (y : W) : ∀ k, uit y 29 (k + 2) = y ^^^ ((y >>> 29) ^^^ (y >>> 58))
  | 0 => by
    show y ^^^ ((y ^^^ (y >>> 29)) >>> 29) = _
    ext i hi
    simp only [BitVec.getElem_xor, BitVec.getElem_ushiftRight, BitVec.getLsbD_xor, BitVec.getLsbD_ushiftRight]
    rw [show 29 + (29 + i) = 58 + i from by omega]
  | k + 1 => by
    show y ^^^ (uit y 29 (k + 2) >>> 29) = _
    rw [uit29 y k]
    ext i hi
    simp only [BitVec.getElem_xor, BitVec.getElem_ushiftRight, BitVec.getLsbD_xor, BitVec.getLsbD_ushiftRight]
    rw [BitVec.getLsbD_of_ge y (58 + (29 + i)) (by omega), Bool.xor_false, show 29 + (29 + i) = 58 + i from by omega]
theorem rinv_B : paroleref03_inverse.f 99 13787848793156543929 = some (T Bi) := by decide +kernel
theorem rinv_A : paroleref03_inverse.f 99 11400714819323198485 = some (T Ai) := by decide +kernel
theorem rback_f (a b : W) (k : Nat) (hk : 99 ≤ k) : paroleref03_Back.f k (T a) (T b) = some (T (backW a b)) := by
  unfold paroleref03_Back.f
  have h1 := unsh_f b 32 (by omega) k (by omega)
  rw [uit32 b 63] at h1
  rw [show ((32 : Nat) : Int) = 32 from rfl] at h1
  rw [h1, Option.bind_some, at_rounds (paroleref03_inverse.mono _) hk rinv_B, Option.bind_some, wrap_T, F_mul, F_T, F_T]
  have h2 := unsh_f ((b ^^^ b >>> 32) * Bi) 29 (by omega) k (by omega)
  rw [uit29 _ 62] at h2
  rw [show ((29 : Nat) : Int) = 29 from rfl] at h2
  rw [h2, Option.bind_some, at_rounds (paroleref03_inverse.mono _) hk rinv_A, Option.bind_some, wrap_T, F_mul, F_T, F_T, xor_T, F_T, F_T]
  rfl
/-! texts that are read -/
def rfold (s : ByteArray) : Nat → Nat → Nat → Nat
  | 0, _, X => X
  | n + 1, i, X => rfold s n (i + 1) (match hv (bt s i) with | some d => X * 16 + d | none => X)
theorem bt_hexc (d : Nat) : bt (⟨#[48, 49, 50, 51, 52, 53, 54, 55, 56, 57, 97, 98, 99, 100, 101, 102]⟩ : ByteArray) (d : Int) = hch d := rfl
/-- what the inner loop, from digit d on, makes of a number -/
def inner (c : Int) (d X : Nat) : Nat := match hv c with | some v => if d ≤ v then X * 16 + v else X | none => X
theorem parse_l1 (s : ByteArray) (i : Nat) (hi : i < s.size) (hs : s.size ≤ 200) (e : Int) (m : Nat) : ∀ (k d X : Nat), 16 - d = m → d ≤ 16 → m < k → X < 16 ^ 15 →
    ∃ k', k ≤ k' + m + 1 ∧ paroleref03_ParseIn.l1 k s i d (X : Int) e = paroleref03_ParseIn.l0 k' s ((i + 1 : Nat) : Int) ((inner (bt s i) d X : Nat) : Int) e := by
  induction m with
  | zero =>
    intro k d X hm hd hk _
    obtain ⟨k, rfl⟩ : ∃ m, k = m + 1 := ⟨k - 1, by omega⟩
    obtain rfl : d = 16 := by omega
    refine ⟨k, by omega, ?_⟩
    have e2 : wrap64 ((i : Int) + 1) = ((i + 1 : Nat) : Int) := by unfold wrap64; omega
    have e3 : inner (bt s i) 16 X = X := by
      unfold inner
      cases hc : hv (bt s i) with
      | none => rfl
      | some v => have := hv_lt hc; dsimp only; rw [if_neg (by omega)]
    rw [paroleref03_ParseIn.l1, if_neg (by decide), e2, e3]
  | succ m ih =>
    intro k d X hm hd hk hX
    obtain ⟨k, rfl⟩ : ∃ m, k = m + 1 := ⟨k - 1, by omega⟩
    have e2 : wrap64 ((d : Int) + 1) = ((d + 1 : Nat) : Int) := by unfold wrap64; omega
    have e4 := u64_small d (by omega)
    rw [paroleref03_ParseIn.l1, e2, e4, bt_hexc]
    clear e2 e4
    rw [if_pos (by omega), if_pos (by omega), if_pos (by omega), if_pos (by omega)]
    by_cases hc : bt s i = hch d
    · have hv1 := (hv_iff d (by omega)).1 hc
      rw [if_pos hc, or_lo X d (by omega) hX]
      have e5 : inner (bt s i) d X = X * 16 + d := by unfold inner; rw [hv1]; dsimp only; rw [if_pos (Nat.le_refl _)]
      rw [e5]
      -- behind the match nothing matches any more
      have go : ∀ (m k d' X' : Nat), 16 - d' = m → d' ≤ 16 → m < k → d < d' → ∃ k', k ≤ k' + m + 1 ∧ paroleref03_ParseIn.l1 k s i d' (X' : Int) e = paroleref03_ParseIn.l0 k' s ((i + 1 : Nat) : Int) (X' : Int) e := by
        intro m
        induction m with
        | zero =>
          intro k d' X' hm hd hk _
          obtain ⟨k, rfl⟩ : ∃ m, k = m + 1 := ⟨k - 1, by omega⟩
          obtain rfl : d' = 16 := by omega
          refine ⟨k, by omega, ?_⟩
          have e2 : wrap64 ((i : Int) + 1) = ((i + 1 : Nat) : Int) := by unfold wrap64; omega
          rw [paroleref03_ParseIn.l1, if_neg (by decide), e2]
        | succ m ih2 =>
          intro k d' X' hm hd hk hdd
          obtain ⟨k, rfl⟩ : ∃ m, k = m + 1 := ⟨k - 1, by omega⟩
          obtain ⟨k', h1, h2⟩ := ih2 k (d' + 1) X' (by omega) (by omega) (by omega) (by omega)
          refine ⟨k', by omega, ?_⟩
          have e2 : wrap64 ((d' : Int) + 1) = ((d' + 1 : Nat) : Int) := by unfold wrap64; omega
          rw [paroleref03_ParseIn.l1, e2, bt_hexc]
          clear e2
          rw [if_pos (by omega), if_pos (by omega), if_pos (by omega), if_pos (by omega), if_neg, h2]
          intro h
          have := (hv_iff d' (by omega)).1 h
          rw [hv1] at this
          have := Option.some.inj this
          omega
      obtain ⟨k', h1, h2⟩ := go m k (d + 1) (X * 16 + d) (by omega) (by omega) (by omega) (by omega)
      exact ⟨k', by omega, h2⟩
    · obtain ⟨k', h1, h2⟩ := ih k (d + 1) X (by omega) (by omega) (by omega) hX
      refine ⟨k', by omega, ?_⟩
      rw [if_neg hc, h2]
      have e5 : inner (bt s i) (d + 1) X = inner (bt s i) d X := by
        unfold inner
        cases hv1 : hv (bt s i) with
        | none => rfl
        | some v =>
          dsimp only
          have : v ≠ d := fun h => hc ((hv_iff d (by omega)).2 (by rw [hv1, h]))
          by_cases h : d ≤ v
          · rw [if_pos h, if_pos (by omega)]
          · rw [if_neg h, if_neg (by omega)]
      rw [e5]
def rfin (s : ByteArray) (X : Nat) : Int × Int := if hs (hdigs X) = s then ((X : Int), 0) else (0, 3)
theorem rparse_l0 (s : ByteArray) (hz : s.size ≤ 200) (n : Nat) : ∀ (k i X : Nat), min s.size 16 - i = n → i ≤ min s.size 16 → 19 * n + 30 ≤ k → X < 16 ^ i →
    paroleref03_ParseIn.l0 k s i (X : Int) 0 = some (rfin s (rfold s n i X)) := by
  induction n with
  | zero =>
    intro k i X hn hi hk hX
    obtain ⟨k, rfl⟩ : ∃ m, k = m + 1 + 1 := ⟨k - 2, by omega⟩
    have hX2 : X < 18446744073709551616 := Nat.lt_of_lt_of_le hX (Nat.le_trans (Nat.pow_le_pow_right (by decide) (show i ≤ 16 by omega)) (by decide))
    have hj : paroleref03_ParseIn.j1 (k + 1) s i false (X : Int) 0 = some (rfin s X) := by
      rw [paroleref03_ParseIn.j1, if_neg (by simp), rtext_f X hX2 k (by omega), Option.bind_some]
      unfold rfin
      by_cases h : hs (hdigs X) = s
      · rw [if_pos h, if_pos (congrArg ByteArray.toList h)]
      · rw [if_neg h, if_neg (fun e => h (toList_inj e))]
    rw [paroleref03_ParseIn.l0]
    by_cases h1 : (i : Int) < (s.size : Int)
    · rw [if_pos h1, decide_eq_false (by omega)]; exact hj
    · rw [if_neg h1]; exact hj
  | succ n ih =>
    intro k i X hn hi hk hX
    obtain ⟨k, rfl⟩ : ∃ m, k = m + 1 + 1 := ⟨k - 2, by omega⟩
    have hX2 : X < 16 ^ 15 := Nat.lt_of_lt_of_le hX (pow16_le i (by omega))
    obtain ⟨k', h1, h2⟩ := parse_l1 s i (by omega) hz 0 16 k 0 X (by omega) (by omega) (by omega) hX2
    rw [paroleref03_ParseIn.l0, if_pos (by omega), decide_eq_true (by omega), paroleref03_ParseIn.j1, if_pos rfl]
    have h3 : inner (bt s i) 0 X = (match hv (bt s i) with | some d => X * 16 + d | none => X) := by
      unfold inner
      cases hv (bt s i) with
      | none => rfl
      | some v => dsimp only; rw [if_pos (Nat.zero_le _)]
    have h4 : inner (bt s i) 0 X < 16 ^ (i + 1) := by
      rw [Nat.pow_succ]
      unfold inner
      cases hc : hv (bt s i) with
      | none => dsimp only; omega
      | some v => have := hv_lt hc; dsimp only; rw [if_pos (Nat.zero_le _)]; omega
    rw [show ((0 : Nat) : Int) = 0 from rfl] at h2
    rw [h2, ih k' (i + 1) _ (by omega) (by omega) (by omega) h4, h3]
    rfl
theorem rparse_f (s : ByteArray) (hz : s.size ≤ 200) (k : Nat) (hk : 400 ≤ k) : paroleref03_ParseIn.f k s = some (rfin s (rfold s (min s.size 16) 0 0)) :=
  rparse_l0 s hz (min s.size 16) k 0 0 (by omega) (by omega) (by omega) (by decide)
theorem rfold_pfold (s : ByteArray) : ∀ (n i X Y : Nat), pfold s n i X = some Y → rfold s n i X = Y
  | 0, _, _, _, h => Option.some.inj h
  | n + 1, i, X, Y, h => by
    unfold rfold
    simp only [pfold] at h
    cases hc : hv (bt s i) with
    | none => rw [hc] at h; cases h
    | some d => rw [hc] at h; exact rfold_pfold s n (i + 1) _ Y h
theorem parse_agree (s : ByteArray) : (if s.size = 16 then pres (pfold s 16 0 0) else (0, 3)) = rfin s (rfold s (min s.size 16) 0 0) := by
  by_cases h16 : s.size = 16
  · rw [if_pos h16, h16, Nat.min_self]
    cases hp : pfold s 16 0 0 with
    | some Y =>
      rw [rfold_pfold s 16 0 0 Y hp]
      unfold rfin
      rw [if_pos (parse_found h16 hp).1.symm]; rfl
    | none =>
      unfold rfin
      rw [if_neg]
      · rfl
      · intro h
        have := parse_digits (hdigs (rfold s 16 0 0)) (hdigs_lt _) (hdigs_length _)
        rw [h, hp] at this
        cases this
  · rw [if_neg h16]
    unfold rfin
    rw [if_neg]
    intro h
    have := congrArg ByteArray.size h
    rw [hs_size, hdigs_length] at this
    exact h16 this.symm
end Go.Proofs.Ytikicibbbeofnaa.Dh
