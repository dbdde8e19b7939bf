/- The stepW of the digest and its inverse, as functions of words of 64 bits; no program in sight. -/
import Derived.Below
import Derived.RowKit
namespace Go.Proofs.Ytikicibbbeofnaa.Dg
abbrev W := BitVec 64
def A : W := 0x9E3779B97F4A7C15#64
def B : W := 0xBF58476D1CE4E5B9#64
def Ai : W := 0xf1de83e19937733d#64
def Bi : W := 0x96de1b173f119089#64

def stepW (h w : W) : W :=
  (((((h ^^^ w) * A) ^^^ (((h ^^^ w) * A) >>> 29)) * B)) ^^^ ((((((h ^^^ w) * A) ^^^ (((h ^^^ w) * A) >>> 29)) * B)) >>> 32)
def backW (h x : W) : W :=
  (((((x ^^^ (x >>> 32)) * Bi) ^^^ ((((x ^^^ (x >>> 32)) * Bi) >>> 29) ^^^ (((x ^^^ (x >>> 32)) * Bi) >>> 58)))) * Ai) ^^^ h

theorem inv32 (x : W) : (x ^^^ (x >>> 32)) ^^^ ((x ^^^ (x >>> 32)) >>> 32) = x := by
  ext i hi
  simp only [BitVec.getElem_xor, BitVec.getElem_ushiftRight, BitVec.getLsbD_xor, BitVec.getLsbD_ushiftRight]
  have h : x.getLsbD (32 + (32 + i)) = false := BitVec.getLsbD_of_ge _ _ (by omega)
  rw [h]
  simp
theorem AAi : A * Ai = 1#64 := by decide +kernel
theorem BBi : B * Bi = 1#64 := by decide +kernel
theorem AiA : Ai * A = 1#64 := by decide +kernel
theorem BiB : Bi * B = 1#64 := by decide +kernel
theorem inv29 (x : W) : (x ^^^ (x >>> 29)) ^^^ (((x ^^^ (x >>> 29)) >>> 29) ^^^ ((x ^^^ (x >>> 29)) >>> 58)) = x := by
  ext i hi
  simp only [BitVec.getElem_xor, BitVec.getElem_ushiftRight, BitVec.getLsbD_xor, BitVec.getLsbD_ushiftRight]
  have h : x.getLsbD (29 + (58 + i)) = false := BitVec.getLsbD_of_ge _ _ (by omega)
  have e : 29 + (29 + i) = 58 + i := by omega
  rw [h, e]
  generalize x[i] = p; generalize x.getLsbD (29 + i) = q; generalize x.getLsbD (58 + i) = r
  revert p q r; decide
theorem inv29' (x : W) : (x ^^^ ((x >>> 29) ^^^ (x >>> 58))) ^^^ ((x ^^^ ((x >>> 29) ^^^ (x >>> 58))) >>> 29) = x := by
  ext i hi
  simp only [BitVec.getElem_xor, BitVec.getElem_ushiftRight, BitVec.getLsbD_xor, BitVec.getLsbD_ushiftRight]
  have h : x.getLsbD (58 + (29 + i)) = false := BitVec.getLsbD_of_ge _ _ (by omega)
  have e : 29 + (29 + i) = 58 + i := by omega
  rw [h, e]
  generalize x[i] = p; generalize x.getLsbD (29 + i) = q; generalize x.getLsbD (58 + i) = r
  revert p q r; decide
theorem xor_xor (h w : W) : (h ^^^ w) ^^^ h = w := by
  rw [BitVec.xor_comm h w, BitVec.xor_assoc, BitVec.xor_self, BitVec.xor_zero]
theorem backW_stepW (h w : W) : backW h (stepW h w) = w := by
  unfold backW stepW
  rw [inv32, BitVec.mul_assoc _ B Bi, BBi, BitVec.mul_one, inv29, BitVec.mul_assoc _ A Ai, AAi, BitVec.mul_one, xor_xor]
theorem stepW_backW (h x : W) : stepW h (backW h x) = x := by
  unfold backW stepW
  rw [show ∀ y : W, h ^^^ (y ^^^ h) = y from fun y => by rw [BitVec.xor_comm y h, ← BitVec.xor_assoc, BitVec.xor_self, BitVec.zero_xor], BitVec.mul_assoc _ Ai A, AiA, BitVec.mul_one, inv29', BitVec.mul_assoc _ Bi B, BiB, BitVec.mul_one, inv32]
theorem step_comm (h w : W) : stepW h w = stepW w h := by unfold stepW; rw [BitVec.xor_comm h w]
theorem stepW_inj_right (h v w : W) : stepW h v = stepW h w ↔ v = w := ⟨fun e => by rw [← backW_stepW h v, e, backW_stepW], fun e => by rw [e]⟩
theorem stepW_inj_left (h v w : W) : stepW v h = stepW w h ↔ v = w := by rw [step_comm v, step_comm w]; exact stepW_inj_right h v w

/-! the numbers of Go -/
def T (x : W) : Int := (x.toNat : Int)
def F (n : Int) : W := BitVec.ofInt 64 n
theorem F_T (x : W) : F (T x) = x := by unfold F T; simp
theorem T_F (n : Int) : T (F n) = n % 18446744073709551616 := by
  unfold T F
  rw [BitVec.toNat_ofInt]
  have : (0 : Int) ≤ n % 18446744073709551616 := by omega
  rw [show ((2 ^ 64 : Nat) : Int) = 18446744073709551616 from by decide]
  omega
theorem T_inj {x y : W} (h : T x = T y) : x = y := by rw [← F_T x, h, F_T]
theorem T_range (x : W) : 0 ≤ T x ∧ T x < 18446744073709551616 := by unfold T; have := x.isLt; omega
theorem wrap_T (n : Int) : IntKind.u64.wrap n = T (F n) := by rw [T_F]; simp [IntKind.wrap, IntKind.bits, IntKind.signed]
theorem T_F_self {n : Int} (h0 : 0 ≤ n) (h1 : n < 18446744073709551616) : T (F n) = n := by rw [T_F]; omega
theorem F_mul (a b : Int) : F (a * b) = F a * F b := by unfold F; rw [BitVec.ofInt_mul]
theorem F_sub (a b : Int) : F (a - b) = F a - F b := by unfold F; rw [Int.sub_eq_add_neg, BitVec.ofInt_add, BitVec.ofInt_neg, BitVec.sub_eq_add_neg]
theorem xor_T (a b : Int) : Go.bits .xor .u64 a b = T (F a ^^^ F b) := by
  show IntKind.u64.wrap (((F a ^^^ F b).toNat : Nat) : Int) = _
  rw [wrap_T]; exact congrArg T (F_T _)
theorem or_T (a b : Int) : Go.bits .or .u64 a b = T (F a ||| F b) := by
  show IntKind.u64.wrap (((F a ||| F b).toNat : Nat) : Int) = _
  rw [wrap_T]; exact congrArg T (F_T _)
theorem and_T (a b : Int) : Go.bits .and .u64 a b = T (F a &&& F b) := by
  show IntKind.u64.wrap (((F a &&& F b).toNat : Nat) : Int) = _
  rw [wrap_T]; exact congrArg T (F_T _)
theorem shr_T (x : W) (k : Nat) : T x / ((2 ^ k : Nat) : Int) = T (x >>> k) := by
  unfold T; rw [BitVec.toNat_ushiftRight, Nat.shiftRight_eq_div_pow, Int.natCast_ediv]
theorem shr29 (x : W) : T x / (536870912 : Int) = T (x >>> 29) := shr_T x 29
theorem shr32 (x : W) : T x / (4294967296 : Int) = T (x >>> 32) := shr_T x 32
theorem shr58 (x : W) : T x / (288230376151711744 : Int) = T (x >>> 58) := shr_T x 58
theorem F_A : F 11400714819323198485 = A := by decide +kernel
theorem F_B : F 13787848793156543929 = B := by decide +kernel

def stepI (a0 a1 : Int) : Int := Go.bits .xor .u64 (IntKind.u64.wrap ((Go.bits .xor .u64 (IntKind.u64.wrap ((Go.bits .xor .u64 a0 a1) * 11400714819323198485)) ((IntKind.u64.wrap ((Go.bits .xor .u64 a0 a1) * 11400714819323198485)) / 536870912)) * 13787848793156543929)) ((IntKind.u64.wrap ((Go.bits .xor .u64 (IntKind.u64.wrap ((Go.bits .xor .u64 a0 a1) * 11400714819323198485)) ((IntKind.u64.wrap ((Go.bits .xor .u64 a0 a1) * 11400714819323198485)) / 536870912)) * 13787848793156543929)) / 4294967296)
theorem stepI_T (a b : Int) : stepI a b = T (stepW (F a) (F b)) := by
  unfold stepI stepW
  simp only [xor_T, wrap_T, F_mul, F_T, shr29, shr32, F_A, F_B]
def backI (a0 a1 t101 t102 : Int) : Int := Go.bits .xor .u64 (IntKind.u64.wrap ((Go.bits .xor .u64 (IntKind.u64.wrap ((Go.bits .xor .u64 a1 (a1 / 4294967296)) * t101)) (Go.bits .xor .u64 ((IntKind.u64.wrap ((Go.bits .xor .u64 a1 (a1 / 4294967296)) * t101)) / 536870912) ((IntKind.u64.wrap ((Go.bits .xor .u64 a1 (a1 / 4294967296)) * t101)) / 288230376151711744))) * t102)) a0
theorem backI_T (a b : Int) (h0 : 0 ≤ b) (h1 : b < 18446744073709551616) : backI a b (T Bi) (T Ai) = T (backW (F a) (F b)) := by
  obtain ⟨y, rfl⟩ : ∃ y, b = T y := ⟨F b, (T_F_self h0 h1).symm⟩
  unfold backI backW
  simp only [xor_T, wrap_T, F_mul, F_T, shr29, shr32, shr58]
end Go.Proofs.Ytikicibbbeofnaa.Dg
