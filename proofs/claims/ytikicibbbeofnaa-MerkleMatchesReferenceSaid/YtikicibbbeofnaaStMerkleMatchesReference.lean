import Derived.Test.YtikicibbbeofnaaMR9
namespace Go.Proofs.Ytikicibbbeofnaa.MR
open Go.RowKit Go.Proofs.YtikicibbbeofnaaW.PrintWords Go.Proofs.YtikicibbbeofnaaW.PrintLast Go.Proofs.YtikicibbbeofnaaW.PrintMore
def parolelaw04_MerkleMatchesReference.Pure : Prop := ∀ (l0 : List Int) (a1_0 : Int) (l1_1 : List Int) (a1_2 : Int) (l1_3 : List Int) (a2_0 : Int) (a2_1 : Int) (a2_2 : Int), l0.length ≤ maxLen → l0.length * 8 ≤ 140737488351232 → (∀ x ∈ l0, (Lit.int .u64 x).wf = true) → (Lit.int .u64 a1_0).wf = true → l1_1.length ≤ maxLen → (∀ x ∈ l1_1, (Lit.int .u64 x).wf = true) → (Lit.int .u64 a1_2).wf = true → l1_3.length ≤ maxLen → (∀ x ∈ l1_3, (Lit.int .u64 x).wf = true) → (Lit.int .i64 a2_0).wf = true → (Lit.int .i64 a2_1).wf = true → (Lit.int .i64 a2_2).wf = true → ∃ k, parolelaw04_MerkleMatchesReference.f k l0 a1_0 l1_1 a1_2 l1_3 a2_0 a2_1 a2_2 = some true
end Go.Proofs.Ytikicibbbeofnaa.MR
