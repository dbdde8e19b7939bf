/- What the printed functions of layer 3 answer, in words of 64 bits. -/
import Derived.Test.YtikicibbbeofnaaDg
import Derived.Test.YtikicibbbeofnaaD3
namespace Go.Proofs.Ytikicibbbeofnaa.Dh
open Go.RowKit Go.Proofs.YtikicibbbeofnaaW.PrintWords Go.Proofs.YtikicibbbeofnaaW.PrintLast Go.Proofs.Ytikicibbbeofnaa.D Go.Proofs.Ytikicibbbeofnaa.Dg
theorem wf_u64 {a : Int} (h : (Lit.int .u64 a).wf = true) : 0 ≤ a ∧ a < 18446744073709551616 := by
  simp [Lit.wf, IntKind.min, IntKind.max, IntKind.bits, IntKind.signed] at h
  omega
theorem examples_true : parolelaw03_examples.f 99 = some true := by decide +kernel
theorem inv_B : digest_inverse.f 99 13787848793156543929 = some (T Bi) := by decide +kernel
theorem inv_A : digest_inverse.f 99 11400714819323198485 = some (T Ai) := by decide +kernel
theorem step_f (a b : Int) : digest_Step.f a b = some (T (stepW (F a) (F b))) := by
  rw [← stepI_T]; rfl
theorem back_f (a b : Int) (h0 : 0 ≤ b) (h1 : b < 18446744073709551616) : digest_Back.f 99 a b = some (T (backW (F a) (F b))) := by
  rw [← backI_T a b h0 h1]
  unfold digest_Back.f
  rw [inv_B, Option.bind_some, inv_A, Option.bind_some]
  rfl
theorem back_fT (a : Int) (b : W) : digest_Back.f 99 a (T b) = some (T (backW (F a) b)) := by
  rw [back_f a (T b) (T_range b).1 (T_range b).2, F_T]
def joinW (a b : W) : W := stepW (stepW (F 11820040416388919760) a) b
theorem join_f (a b : Int) : digest_Join.f a b = some (T (joinW (F a) (F b))) := by
  unfold digest_Join.f
  rw [step_f, Option.bind_some, step_f, Option.bind_some, F_T]; rfl
theorem T_beq (x y : W) : (T x == T y) = (x == y) := by
  by_cases h : x = y
  · subst h; simp
  · rw [beq_eq_false_iff_ne.2 h, beq_eq_false_iff_ne.2 (fun e => h (T_inj e))]
theorem F_beq {a b : Int} (h0 : 0 ≤ a) (h1 : a < 18446744073709551616) (k0 : 0 ≤ b) (k1 : b < 18446744073709551616) : (F a == F b) = (a == b) := by
  rw [← T_beq, T_F_self h0 h1, T_F_self k0 k1]
theorem step_beq_right (h v w : W) : (stepW h v == stepW h w) = (v == w) := by
  by_cases e : v = w
  · subst e; simp
  · rw [beq_eq_false_iff_ne.2 e, beq_eq_false_iff_ne.2 (fun k => e ((stepW_inj_right h v w).1 k))]
theorem step_beq_left (h v w : W) : (stepW v h == stepW w h) = (v == w) := by
  by_cases e : v = w
  · subst e; simp
  · rw [beq_eq_false_iff_ne.2 e, beq_eq_false_iff_ne.2 (fun k => e ((stepW_inj_left h v w).1 k))]
end Go.Proofs.Ytikicibbbeofnaa.Dh
