import Derived.Test.YtikicibbbeofnaaMB6
namespace Go.Proofs.Ytikicibbbeofnaa.MB
open Go.RowKit Go.Proofs.YtikicibbbeofnaaW.PrintWords Go.Proofs.YtikicibbbeofnaaW.PrintLast Go.Proofs.YtikicibbbeofnaaW.PrintMore
def parolelaw04_MerkleBinds.Pure : Prop := ∀ (l0 : List Int) (a1 : Int) (a2_0 : Int) (l2_1 : List Int), l0.length ≤ maxLen → l0.length * 8 ≤ 140737488351232 → (∀ x ∈ l0, (Lit.int .u64 x).wf = true) → (Lit.int .u8 a1).wf = true → (Lit.int .u64 a2_0).wf = true → l2_1.length ≤ maxLen → (∀ x ∈ l2_1, (Lit.int .u64 x).wf = true) → ∃ k, parolelaw04_MerkleBinds.f k l0 a1 a2_0 l2_1 = some true
end Go.Proofs.Ytikicibbbeofnaa.MB
