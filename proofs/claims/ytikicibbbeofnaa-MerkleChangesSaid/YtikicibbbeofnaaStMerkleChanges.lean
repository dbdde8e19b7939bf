import Derived.Test.YtikicibbbeofnaaD16
namespace Go.Proofs.Ytikicibbbeofnaa.D
open Go.RowKit Go.Proofs.YtikicibbbeofnaaW.PrintWords Go.Proofs.YtikicibbbeofnaaW.PrintLast Go.Proofs.YtikicibbbeofnaaW.PrintMore
def parolelaw04_MerkleChanges.Pure : Prop := ∀ (l0 : List Int) (a1_0 : Int) (a1_1 : Int) (a2 : Int), l0.length ≤ maxLen → l0.length * 8 ≤ 140737488351232 → (∀ x ∈ l0, (Lit.int .u64 x).wf = true) → (Lit.int .u16 a1_0).wf = true → (Lit.int .u16 a1_1).wf = true → (Lit.int .u64 a2).wf = true → ∃ k, parolelaw04_MerkleChanges.f k l0 a1_0 a1_1 a2 = some true
end Go.Proofs.Ytikicibbbeofnaa.D
