/- For all numbers a, b and c, the digests of two pairs that differ in one element are different: the statement DigestJoins, for all inputs. -/
import Derived.Test.YtikicibbbeofnaaDh
namespace Go.Proofs.Ytikicibbbeofnaa.Pure
open Go.RowKit Go.Proofs.YtikicibbbeofnaaW.PrintWords Go.Proofs.YtikicibbbeofnaaW.PrintLast Go.Proofs.Ytikicibbbeofnaa.D Go.Proofs.Ytikicibbbeofnaa.Dg Go.Proofs.Ytikicibbbeofnaa.Dh
theorem DigestJoins : parolelaw03_DigestJoins.Pure := by
  intro a b c ha hb hc
  obtain ⟨a0, a1⟩ := wf_u64 ha
  obtain ⟨b0, b1⟩ := wf_u64 hb
  obtain ⟨c0, c1⟩ := wf_u64 hc
  refine ⟨99, ?_⟩
  unfold parolelaw03_DigestJoins.f
  rw [examples_true, Option.bind_some, if_pos rfl, join_f, Option.bind_some, join_f, Option.bind_some, T_beq]
  unfold joinW
  rw [step_beq_right, F_beq b0 b1 c0 c1, if_pos (by simp), join_f, Option.bind_some, T_beq]
  unfold joinW
  rw [step_beq_left, step_beq_right, F_beq a0 a1 c0 c1, if_pos (by simp)]
end Go.Proofs.Ytikicibbbeofnaa.Pure
