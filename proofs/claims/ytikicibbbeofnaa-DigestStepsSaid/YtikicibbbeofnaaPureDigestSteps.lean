/- For every digest h and words v and w, Back undoes Step and Step undoes Back, and different words, and different digests, give different steps: the statement DigestSteps, for all inputs. -/
import Derived.Test.YtikicibbbeofnaaDh
namespace Go.Proofs.Ytikicibbbeofnaa.Pure
open Go.RowKit Go.Proofs.YtikicibbbeofnaaW.PrintWords Go.Proofs.YtikicibbbeofnaaW.PrintLast Go.Proofs.Ytikicibbbeofnaa.D Go.Proofs.Ytikicibbbeofnaa.Dg Go.Proofs.Ytikicibbbeofnaa.Dh
theorem DigestSteps : parolelaw03_DigestSteps.Pure := by
  intro h v w hh hv hw
  obtain ⟨h0, h1⟩ := wf_u64 hh
  obtain ⟨v0, v1⟩ := wf_u64 hv
  obtain ⟨w0, w1⟩ := wf_u64 hw
  refine ⟨99, ?_⟩
  unfold parolelaw03_DigestSteps.f
  rw [examples_true, Option.bind_some, if_pos rfl, step_f, Option.bind_some, back_fT, backW_stepW, T_F_self w0 w1, Option.bind_some, if_pos rfl, back_f h w w0 w1, Option.bind_some, step_f, F_T, stepW_backW, T_F_self w0 w1, Option.bind_some]
  simp only [parolelaw03_DigestSteps.j0]
  rw [if_neg (by simp), step_f, Option.bind_some, step_f, Option.bind_some, T_beq, step_beq_right, F_beq v0 v1 w0 w1, if_pos (by simp), step_f, Option.bind_some, step_f, Option.bind_some, T_beq, step_beq_left, F_beq v0 v1 w0 w1, if_pos (by simp)]
end Go.Proofs.Ytikicibbbeofnaa.Pure
