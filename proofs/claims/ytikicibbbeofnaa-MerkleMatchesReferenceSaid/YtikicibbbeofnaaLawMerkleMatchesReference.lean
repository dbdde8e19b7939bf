-- Written by wip/rowx.py (this session's). Not trusted: Lean checks it.
import Derived.Test.YtikicibbbeofnaaRows
import Derived.Test.YtikicibbbeofnaaMR9
import Derived.Test.YtikicibbbeofnaaStMerkleMatchesReference
import Derived.Test.YtikicibbbeofnaaPureMerkleMatchesReference
import Derived.WalkKit
import Derived.ProofKit
import Derived.OpenShut
import Derived.ShutString
import Derived.ChangeOld
import Derived.Below
import Derived.SizedLaws
import Derived.ChangeArms
import Derived.WideShapes
import Derived.Test.YtikicibbbeofnaaXSized
namespace Go.Proofs.Ytikicibbbeofnaa.merkleMatchesReference
open Go.ChangeShapes Go.WideShapes Go.ChangeAt Go.RowKit
open Go.ChangeMaps (open_string shut_string)
set_option linter.unusedVariables false
set_option linter.unusedSimpArgs false
theorem own : ownKnob Try.prog.godebug = none := by kernel_rfl
theorem laidOut : laidOutB Try.prog = true := by kernel_rfl
theorem okWide_row {P : Program} {w : World} {r : Reach} {b : Nat} {t e : TypeId} {n : Nat} {v : Value} (ht : P.underlying t = some (.array n e)) (h : Value.okWide P w r b t v) : ∃ cs, v = .agg cs ∧ cs.size = P.cellsOf t := by
  simp only [Value.okWide, ht] at h
  obtain ⟨cs, h1, h2, _⟩ := h
  exact ⟨cs, h1, h2⟩
theorem lst3 {cs : Array Value} (h : cs.size = 3) : ∃ c0 c1 c2, cs = #[c0, c1, c2] := by
  match cs, h with
  | ⟨[c0, c1, c2]⟩, _ => exact ⟨c0, c1, c2, rfl⟩
theorem lst4 {cs : Array Value} (h : cs.size = 4) : ∃ c0 c1 c2 c3, cs = #[c0, c1, c2, c3] := by
  match cs, h with
  | ⟨[c0, c1, c2, c3]⟩, _ => exact ⟨c0, c1, c2, c3, rfl⟩
def IsRow (k : IntKind) (w : World) (a : Option Addr) (len cap : Nat) (zs : List Int) : Prop :=
  (a = none ∧ len = 0 ∧ cap = 0 ∧ zs = []) ∨
  ∃ x, a = some x ∧ len ≤ cap ∧ cap ≤ maxLen ∧ zs.length = cap ∧ (∀ i, i < zs.length → w.cell? (x.add i) = some (.int k (zs.getD i 0))) ∧ ∀ n ∈ zs, (Lit.int k n).wf = true
set_option maxRecDepth 100000 in
set_option maxHeartbeats 4000000 in
theorem lifted (os : Os) (started : os.Started) (H : Type) (enc : TypeId × Value → H) :
    ReturnsInHanded {} Try.checked os 14 .any (Rows.merkleMatchesReferenceSpec.pre6 enc Try.prog Try.f14 Rows.merkleMatchesReferenceRow.domain false) (Rows.merkleMatchesReferenceSpec.post enc Try.prog Try.f14 false true false false) := by
  refine returnsInHanded_of_change_sized (C := Try.checked) own started (by kernel_rfl) Try.func14
    (ChangeSpec.witness6 (enc := enc) (C := Try.checked) false ⟨#[], #[.slice none 0 0, .agg #[.int .u64 0, .slice none 0 0, .int .u64 0, .slice none 0 0], .agg #[.int .i64 0, .int .i64 0, .int .i64 0]], []⟩ 8 (by kernel_rfl) (by kernel_rfl) (by kernel_rfl) (by kernel_rfl)) ?_
  intro W base args ds gs before hval0 hW hcnd hsz0 _
  have hsz : (DataW.weightsEach Try.prog (Try.f14.params.toList ++ Rows.merkleMatchesReferenceSpec.plain.varTypes Try.prog) (ds ++ gs)).all (· ≤ reachBytes) = true := hsz0
  have hval : ∀ (j : Nat) t v, Try.f14.params[j]? = some t → args[j]? = some v → Value.okWide Try.prog W .any base t v := hval0
  have hW' := hW
  obtain ⟨p, q, hA0, hV, rfl, hfz, hnd⟩ := hW
  have hA : DataW.TrodAll enc Try.prog W 0 (fun _ => true) true Try.f14.params.toList args.toList ds p := hA0
  rw [Try.params14] at hA hval hsz
  obtain ⟨v0, vs0, d0, ds0, p0, q0, hargs, rfl, rfl, h0, r0⟩ := trodAll_cons hA
  obtain ⟨v1, vs1, d1, ds1, p1, q1, rfl, rfl, rfl, h1, r1⟩ := trodAll_cons r0
  obtain ⟨v2, vs2, d2, ds2, p2, q2, rfl, rfl, rfl, h2, r2⟩ := trodAll_cons r1
  obtain ⟨rfl, rfl, rfl⟩ := trodAll_nil r2
  obtain rfl : args = #[v0, v1, v2] := by cases args; simp_all
  obtain ⟨rfl, rfl⟩ := trodVars_none hV
  have k0 := h0
  have lt0 : ∀ x ∈ p0, x.block < W.heap.size := by obtain ⟨m, hm⟩ := k0; exact DataW.trod_lt m _ _ _ hm
  obtain ⟨a0_, len0_, cap0_, rfl⟩ := okWide_slice Try.underlying41 (hval 0 41 v0 rfl rfl)
  have yl0_ : len0_ * 8 ≤ 140737488351232 := Go.Proofs.YtikicibbbeofnaaW.PrintWords.sized_ints hsz (j := 0) (t := 41) rfl rfl Try.underlying41 Try.underlying22 (by kernel_rfl) (by kernel_rfl) h0
  obtain ⟨fu0, hf0⟩ := h0
  have hg0 : DataW.trod enc Try.prog W 0 (fun _ => true) true fu0 41 [.slice a0_ len0_ cap0_] = some (d0, p0) := hf0
  obtain ⟨z0, w0⟩ : ∃ zs, IsRow .u64 W a0_ len0_ cap0_ zs := by
    rcases open_ints Try.underlying41 Try.underlying22 (by kernel_rfl) hg0 with ⟨hcs, _⟩ | ⟨x, l, c, zs, hcs, _, hl, hm, hz, _, hcell, hwz⟩
    · simp at hcs
      obtain ⟨rfl, rfl, rfl⟩ := hcs
      exact ⟨[], .inl ⟨rfl, rfl, rfl, rfl⟩⟩
    · simp at hcs
      obtain ⟨rfl, rfl, rfl⟩ := hcs
      exact ⟨zs, .inr ⟨_, rfl, hl, hm, by simpa using hz, hcell, hwz⟩⟩
  obtain ⟨l0, rfl, hrl0, hml0, hwl0, hcl0⟩ := Go.Proofs.YtikicibbbeofnaaW.PrintWords.ReadsInt.ofRowC w0
  have k1 := h1
  have lt1 : ∀ x ∈ p1, x.block < W.heap.size := by obtain ⟨m, hm⟩ := k1; exact DataW.trod_lt m _ _ _ hm
  obtain ⟨cs1, rfl, sz1⟩ := okWide_row Try.underlying57 (hval 1 57 v1 rfl rfl)
  obtain ⟨c1_0, c1_1, c1_2, c1_3, rfl⟩ := lst4 (sz1.trans (by kernel_rfl : Try.prog.cellsOf 57 = 4))
  obtain ⟨fu1, hf1⟩ := h1
  have hg1 : DataW.trod enc Try.prog W 0 (fun _ => true) true fu1 57 [c1_0, c1_1, c1_2, c1_3] = some (d1, p1) := hf1
  obtain ⟨xs1_0, m1_0, _, _, _, hl1_0, hf1_0⟩ := DataW.trod_array Try.underlying57 hg1
  obtain ⟨yg1_0_0, g1_0_0⟩ : ∃ y, DataW.trod enc Try.prog W 0 (fun _ => true) true m1_0 50 [c1_0, c1_1] = some y := by
    have e : Try.prog.cellsOf 50 = 2 := by kernel_rfl
    have g := hf1_0 0 (by decide)
    rw [e] at g
    exact ⟨_, g.trans (List.getElem?_eq_getElem (by rw [hl1_0]; decide))⟩
  obtain ⟨yg1_0_1, g1_0_1⟩ : ∃ y, DataW.trod enc Try.prog W 0 (fun _ => true) true m1_0 50 [c1_2, c1_3] = some y := by
    have e : Try.prog.cellsOf 50 = 2 := by kernel_rfl
    have g := hf1_0 1 (by decide)
    rw [e] at g
    exact ⟨_, g.trans (List.getElem?_eq_getElem (by rw [hl1_0]; decide))⟩
  obtain ⟨xs1_1, m1_1, _, _, _, hl1_1, hf1_1⟩ := DataW.trod_struct Try.underlying50 g1_0_0
  obtain ⟨yg1_1_0, g1_1_0⟩ : ∃ y, DataW.trod enc Try.prog W 0 (fun _ => true) true m1_1 22 [c1_0] = some y := by
    have e : Try.prog.cellsOf 22 = 1 := by kernel_rfl
    have g := hf1_1 0 _ rfl
    try dsimp only at g
    try simp only [List.getElem_toArray, List.getElem_cons_zero, List.getElem_cons_succ] at g
    rw [e] at g
    exact ⟨_, g.trans (List.getElem?_eq_getElem (by rw [hl1_1]; decide))⟩
  obtain ⟨yg1_1_1, g1_1_1⟩ : ∃ y, DataW.trod enc Try.prog W 0 (fun _ => true) true m1_1 41 [c1_1] = some y := by
    have e : Try.prog.cellsOf 41 = 1 := by kernel_rfl
    have g := hf1_1 1 _ rfl
    try dsimp only at g
    try simp only [List.getElem_toArray, List.getElem_cons_zero, List.getElem_cons_succ] at g
    rw [e] at g
    exact ⟨_, g.trans (List.getElem?_eq_getElem (by rw [hl1_1]; decide))⟩
  obtain ⟨a1_0, rfl, wa1_0⟩ : ∃ b : Int, c1_0 = .int .u64 b ∧ (Lit.int .u64 b).wf = true := by obtain ⟨b, hb, _, hs⟩ := DataW.trod_int Try.underlying22 g1_1_0; exact ⟨b, by simpa using hb, hs⟩
  obtain ⟨A1_1, n1_1, c1_1_, z1_1, wl1_1, rfl⟩ : ∃ (a : Option Addr) (len cap : Nat) (zs : List Int), IsRow .u64 W a len cap zs ∧ c1_1 = .slice a len cap := by
    rcases open_ints Try.underlying41 Try.underlying22 (by kernel_rfl) g1_1_1 with ⟨hcs, _⟩ | ⟨x, l, cc, zs, hcs, _, hl, hm, hz, _, hcell, hwz⟩
    · exact ⟨none, 0, 0, [], .inl ⟨rfl, rfl, rfl, rfl⟩, by simpa using hcs⟩
    · exact ⟨some x, l, cc, zs, .inr ⟨_, rfl, hl, hm, by simpa using hz, hcell, hwz⟩, by simpa using hcs⟩
  obtain ⟨l1_1, rfl, hrl1_1, hml1_1, hwl1_1, hcl1_1⟩ := Go.Proofs.YtikicibbbeofnaaW.PrintWords.ReadsInt.ofRowC wl1_1
  obtain ⟨xs1_2, m1_2, _, _, _, hl1_2, hf1_2⟩ := DataW.trod_struct Try.underlying50 g1_0_1
  obtain ⟨yg1_2_0, g1_2_0⟩ : ∃ y, DataW.trod enc Try.prog W 0 (fun _ => true) true m1_2 22 [c1_2] = some y := by
    have e : Try.prog.cellsOf 22 = 1 := by kernel_rfl
    have g := hf1_2 0 _ rfl
    try dsimp only at g
    try simp only [List.getElem_toArray, List.getElem_cons_zero, List.getElem_cons_succ] at g
    rw [e] at g
    exact ⟨_, g.trans (List.getElem?_eq_getElem (by rw [hl1_2]; decide))⟩
  obtain ⟨yg1_2_1, g1_2_1⟩ : ∃ y, DataW.trod enc Try.prog W 0 (fun _ => true) true m1_2 41 [c1_3] = some y := by
    have e : Try.prog.cellsOf 41 = 1 := by kernel_rfl
    have g := hf1_2 1 _ rfl
    try dsimp only at g
    try simp only [List.getElem_toArray, List.getElem_cons_zero, List.getElem_cons_succ] at g
    rw [e] at g
    exact ⟨_, g.trans (List.getElem?_eq_getElem (by rw [hl1_2]; decide))⟩
  obtain ⟨a1_2, rfl, wa1_2⟩ : ∃ b : Int, c1_2 = .int .u64 b ∧ (Lit.int .u64 b).wf = true := by obtain ⟨b, hb, _, hs⟩ := DataW.trod_int Try.underlying22 g1_2_0; exact ⟨b, by simpa using hb, hs⟩
  obtain ⟨A1_3, n1_3, c1_3_, z1_3, wl1_3, rfl⟩ : ∃ (a : Option Addr) (len cap : Nat) (zs : List Int), IsRow .u64 W a len cap zs ∧ c1_3 = .slice a len cap := by
    rcases open_ints Try.underlying41 Try.underlying22 (by kernel_rfl) g1_2_1 with ⟨hcs, _⟩ | ⟨x, l, cc, zs, hcs, _, hl, hm, hz, _, hcell, hwz⟩
    · exact ⟨none, 0, 0, [], .inl ⟨rfl, rfl, rfl, rfl⟩, by simpa using hcs⟩
    · exact ⟨some x, l, cc, zs, .inr ⟨_, rfl, hl, hm, by simpa using hz, hcell, hwz⟩, by simpa using hcs⟩
  obtain ⟨l1_3, rfl, hrl1_3, hml1_3, hwl1_3, hcl1_3⟩ := Go.Proofs.YtikicibbbeofnaaW.PrintWords.ReadsInt.ofRowC wl1_3
  have k2 := h2
  have lt2 : ∀ x ∈ p2, x.block < W.heap.size := by obtain ⟨m, hm⟩ := k2; exact DataW.trod_lt m _ _ _ hm
  obtain ⟨cs2, rfl, sz2⟩ := okWide_row Try.underlying58 (hval 2 58 v2 rfl rfl)
  obtain ⟨c2_0, c2_1, c2_2, rfl⟩ := lst3 (sz2.trans (by kernel_rfl : Try.prog.cellsOf 58 = 3))
  obtain ⟨fu2, hf2⟩ := h2
  have hg2 : DataW.trod enc Try.prog W 0 (fun _ => true) true fu2 58 [c2_0, c2_1, c2_2] = some (d2, p2) := hf2
  obtain ⟨xs2_0, m2_0, _, _, _, hl2_0, hf2_0⟩ := DataW.trod_array Try.underlying58 hg2
  obtain ⟨yg2_0_0, g2_0_0⟩ : ∃ y, DataW.trod enc Try.prog W 0 (fun _ => true) true m2_0 3 [c2_0] = some y := by
    have e : Try.prog.cellsOf 3 = 1 := by kernel_rfl
    have g := hf2_0 0 (by decide)
    rw [e] at g
    exact ⟨_, g.trans (List.getElem?_eq_getElem (by rw [hl2_0]; decide))⟩
  obtain ⟨yg2_0_1, g2_0_1⟩ : ∃ y, DataW.trod enc Try.prog W 0 (fun _ => true) true m2_0 3 [c2_1] = some y := by
    have e : Try.prog.cellsOf 3 = 1 := by kernel_rfl
    have g := hf2_0 1 (by decide)
    rw [e] at g
    exact ⟨_, g.trans (List.getElem?_eq_getElem (by rw [hl2_0]; decide))⟩
  obtain ⟨yg2_0_2, g2_0_2⟩ : ∃ y, DataW.trod enc Try.prog W 0 (fun _ => true) true m2_0 3 [c2_2] = some y := by
    have e : Try.prog.cellsOf 3 = 1 := by kernel_rfl
    have g := hf2_0 2 (by decide)
    rw [e] at g
    exact ⟨_, g.trans (List.getElem?_eq_getElem (by rw [hl2_0]; decide))⟩
  obtain ⟨a2_0, rfl, wa2_0⟩ : ∃ b : Int, c2_0 = .int .i64 b ∧ (Lit.int .i64 b).wf = true := by obtain ⟨b, hb, _, hs⟩ := DataW.trod_int Try.underlying3 g2_0_0; exact ⟨b, by simpa using hb, hs⟩
  obtain ⟨a2_1, rfl, wa2_1⟩ : ∃ b : Int, c2_1 = .int .i64 b ∧ (Lit.int .i64 b).wf = true := by obtain ⟨b, hb, _, hs⟩ := DataW.trod_int Try.underlying3 g2_0_1; exact ⟨b, by simpa using hb, hs⟩
  obtain ⟨a2_2, rfl, wa2_2⟩ : ∃ b : Int, c2_2 = .int .i64 b ∧ (Lit.int .i64 b).wf = true := by obtain ⟨b, hb, _, hs⟩ := DataW.trod_int Try.underlying3 g2_0_2; exact ⟨b, by simpa using hb, hs⟩
  clear hA0 hval0 hsz0 hsz
  obtain ⟨k, h⟩ := Pure.MerkleMatchesReference _ _ _ _ _ _ _ _ hml0 yl0_ hwl0 wa1_0 hml1_1 hwl1_1 wa1_2 hml1_3 hwl1_3 wa2_0 wa2_1 wa2_2
  refine (MR.parolelaw04_MerkleMatchesReference.calls (k := k) (hr0 := Go.Proofs.YtikicibbbeofnaaW.PrintWords.Kd.C_of_reads (d := (0 : Int)) (h1 := fun _ => rfl) hrl0) (hc0 := hcl0) (hr1_1 := Go.Proofs.YtikicibbbeofnaaW.PrintWords.Kd.C_of_reads (d := (0 : Int)) (h1 := fun _ => rfl) hrl1_1) (hc1_1 := hcl1_1) (hr1_3 := Go.Proofs.YtikicibbbeofnaaW.PrintWords.Kd.C_of_reads (d := (0 : Int)) (h1 := fun _ => rfl) hrl1_3) (hc1_3 := hcl1_3) (w := W) (r := true) (h := h)).mono fun e W' ⟨he, hd⟩ => ?_
  have bel : Below W.heap.size W W' := hd
  subst he
  exact ⟨_, rfl, _, _, _, [], _, [], hW', trodAll_mk1 (shut_bool Try.underlying4 _), (trodAll_cons_mk (Below.trod laidOut (by kernel_rfl) (of_decide_eq_true (by kernel_rfl)) k0 bel lt0) (trodAll_cons_mk (Below.trod laidOut (by kernel_rfl) (of_decide_eq_true (by kernel_rfl)) k1 bel lt1) (trodAll_cons_mk (Below.trod laidOut (by kernel_rfl) (of_decide_eq_true (by kernel_rfl)) k2 bel lt2) trodAll_mk0))), rfl, bel.frame _, fun h => by cases h⟩
theorem over : Rows.merkleMatchesReferenceRow.holds Try.pinned (OpenSpec.ofChange Rows.merkleMatchesReferenceSpec) :=
  OpenClaim.holds_of_wide 14 Try.f14 rfl rfl rfl rfl rfl rfl rfl ⟨rfl, rfl, rfl, rfl, rfl⟩ rfl rfl rfl rfl rfl (by kernel_rfl) Try.func14 (by kernel_rfl)
    (of_decide_eq_true (by kernel_rfl)) (by unfold Func.isWrapper; first | (rw [if_pos (by decide +kernel)]; kernel_rfl) | (rw [if_neg (by decide +kernel)]; exact ⟨rfl, rfl⟩))
    (fun os started H enc _ => lifted os started H enc)
theorem proved : Rows.MerkleMatchesReferenceSaid := over
#print axioms proved
end Go.Proofs.Ytikicibbbeofnaa.merkleMatchesReference
namespace Go.Proofs.Ytikicibbbeofnaa
/-- The row, under a short name, for the claim. -/
theorem merkleMatchesReference_holds : Rows.MerkleMatchesReferenceSaid := merkleMatchesReference.proved
end Go.Proofs.Ytikicibbbeofnaa
