-- Written by wip/rowx.py (this session's). Not trusted: Lean checks it.
import Derived.Test.YtikicibbbeofnaaRows
import Derived.Test.YtikicibbbeofnaaD9
import Derived.Test.YtikicibbbeofnaaStDigestTexts
import Derived.Test.YtikicibbbeofnaaPureDigestTexts
import Derived.WalkKit
import Derived.ProofKit
import Derived.OpenShut
import Derived.ShutString
import Derived.ChangeOld
import Derived.Below
import Derived.SizedLaws
import Derived.ChangeArms
import Derived.WideShapes
import Derived.Test.YtikicibbbeofnaaWSized
namespace Go.Proofs.Ytikicibbbeofnaa.digestTexts
open Go.ChangeShapes Go.WideShapes Go.ChangeAt Go.RowKit
open Go.ChangeMaps (open_string shut_string)
set_option linter.unusedVariables false
theorem own : ownKnob Try.prog.godebug = none := by kernel_rfl
theorem laidOut : laidOutB Try.prog = true := by kernel_rfl
theorem okWide_row {P : Program} {w : World} {r : Reach} {b : Nat} {t e : TypeId} {n : Nat} {v : Value} (ht : P.underlying t = some (.array n e)) (h : Value.okWide P w r b t v) : ∃ cs, v = .agg cs ∧ cs.size = P.cellsOf t := by
  simp only [Value.okWide, ht] at h
  obtain ⟨cs, h1, h2, _⟩ := h
  exact ⟨cs, h1, h2⟩
theorem lst2 {cs : Array Value} (h : cs.size = 2) : ∃ c0 c1, cs = #[c0, c1] := by
  match cs, h with
  | ⟨[c0, c1]⟩, _ => exact ⟨c0, c1, rfl⟩
def IsRow (k : IntKind) (w : World) (a : Option Addr) (len cap : Nat) (zs : List Int) : Prop :=
  (a = none ∧ len = 0 ∧ cap = 0 ∧ zs = []) ∨
  ∃ x, a = some x ∧ len ≤ cap ∧ cap ≤ maxLen ∧ zs.length = cap ∧ (∀ i, i < zs.length → w.cell? (x.add i) = some (.int k (zs.getD i 0))) ∧ ∀ n ∈ zs, (Lit.int k n).wf = true
set_option maxRecDepth 100000 in
set_option maxHeartbeats 4000000 in
theorem lifted (os : Os) (started : os.Started) (H : Type) (enc : TypeId × Value → H) :
    ReturnsInHanded {} Try.checked os 4 .any (Rows.digestTextsSpec.pre6 enc Try.prog Try.f4 Rows.digestTextsRow.domain false) (Rows.digestTextsSpec.post enc Try.prog Try.f4 false true false false) := by
  refine returnsInHanded_of_change_sized (C := Try.checked) own started (by kernel_rfl) Try.func4
    (ChangeSpec.witness6 (enc := enc) (C := Try.checked) false ⟨#[], #[.int .u64 0, .int .u64 0, .agg #[.int .u8 0, .int .u8 0]], []⟩ 8 (by kernel_rfl) (by kernel_rfl) (by kernel_rfl) (by kernel_rfl)) ?_
  intro W base args ds gs before hval0 hW hcnd hsz0 _
  have hsz : (DataW.weightsEach Try.prog (Try.f4.params.toList ++ Rows.digestTextsSpec.plain.varTypes Try.prog) (ds ++ gs)).all (· ≤ reachBytes) = true := hsz0
  have hval : ∀ (j : Nat) t v, Try.f4.params[j]? = some t → args[j]? = some v → Value.okWide Try.prog W .any base t v := hval0
  have hW' := hW
  obtain ⟨p, q, hA0, hV, rfl, hfz, hnd⟩ := hW
  have hA : DataW.TrodAll enc Try.prog W 0 (fun _ => true) true Try.f4.params.toList args.toList ds p := hA0
  rw [Try.params4] at hA hval hsz
  obtain ⟨v0, vs0, d0, ds0, p0, q0, hargs, rfl, rfl, h0, r0⟩ := trodAll_cons hA
  obtain ⟨v1, vs1, d1, ds1, p1, q1, rfl, rfl, rfl, h1, r1⟩ := trodAll_cons r0
  obtain ⟨v2, vs2, d2, ds2, p2, q2, rfl, rfl, rfl, h2, r2⟩ := trodAll_cons r1
  obtain ⟨rfl, rfl, rfl⟩ := trodAll_nil r2
  obtain rfl : args = #[v0, v1, v2] := by cases args; simp_all
  obtain ⟨rfl, rfl⟩ := trodVars_none hV
  have k0 := h0
  have lt0 : ∀ x ∈ p0, x.block < W.heap.size := by obtain ⟨m, hm⟩ := k0; exact DataW.trod_lt m _ _ _ hm
  obtain ⟨a0, rfl, rfl, rfl, w0⟩ := open_int Try.underlying22 (hval 0 22 v0 rfl rfl) h0
  have k1 := h1
  have lt1 : ∀ x ∈ p1, x.block < W.heap.size := by obtain ⟨m, hm⟩ := k1; exact DataW.trod_lt m _ _ _ hm
  obtain ⟨a1, rfl, rfl, rfl, w1⟩ := open_int Try.underlying22 (hval 1 22 v1 rfl rfl) h1
  have k2 := h2
  have lt2 : ∀ x ∈ p2, x.block < W.heap.size := by obtain ⟨m, hm⟩ := k2; exact DataW.trod_lt m _ _ _ hm
  obtain ⟨cs2, rfl, sz2⟩ := okWide_row Try.underlying26 (hval 2 26 v2 rfl rfl)
  obtain ⟨c2_0, c2_1, rfl⟩ := lst2 (sz2.trans (by kernel_rfl : Try.prog.cellsOf 26 = 2))
  obtain ⟨fu2, hf2⟩ := h2
  have hg2 : DataW.trod enc Try.prog W 0 (fun _ => true) true fu2 26 [c2_0, c2_1] = some (d2, p2) := hf2
  obtain ⟨xs2_0, m2_0, _, _, _, hl2_0, hf2_0⟩ := DataW.trod_array Try.underlying26 hg2
  obtain ⟨yg2_0_0, g2_0_0⟩ : ∃ y, DataW.trod enc Try.prog W 0 (fun _ => true) true m2_0 5 [c2_0] = some y := by
    have e : Try.prog.cellsOf 5 = 1 := by kernel_rfl
    have g := hf2_0 0 (by decide)
    rw [e] at g
    exact ⟨_, g.trans (List.getElem?_eq_getElem (by rw [hl2_0]; decide))⟩
  obtain ⟨yg2_0_1, g2_0_1⟩ : ∃ y, DataW.trod enc Try.prog W 0 (fun _ => true) true m2_0 5 [c2_1] = some y := by
    have e : Try.prog.cellsOf 5 = 1 := by kernel_rfl
    have g := hf2_0 1 (by decide)
    rw [e] at g
    exact ⟨_, g.trans (List.getElem?_eq_getElem (by rw [hl2_0]; decide))⟩
  obtain ⟨a2_0, rfl, wa2_0⟩ : ∃ b : Int, c2_0 = .int .u8 b ∧ (Lit.int .u8 b).wf = true := by obtain ⟨b, hb, _, hs⟩ := DataW.trod_int Try.underlying5 g2_0_0; exact ⟨b, by simpa using hb, hs⟩
  obtain ⟨a2_1, rfl, wa2_1⟩ : ∃ b : Int, c2_1 = .int .u8 b ∧ (Lit.int .u8 b).wf = true := by obtain ⟨b, hb, _, hs⟩ := DataW.trod_int Try.underlying5 g2_0_1; exact ⟨b, by simpa using hb, hs⟩
  clear hA0 hval0 hsz0 hsz
  obtain ⟨k, h⟩ := Pure.DigestTexts _ _ _ _ w0 w1 wa2_0 wa2_1
  refine (D.parolelaw03_DigestTexts.calls (k := k) (w := W) (r := true) (h := h)).mono fun e W' ⟨he, hd⟩ => ?_
  have bel : Below W.heap.size W W' := hd
  subst he
  exact ⟨_, rfl, _, _, _, [], _, [], hW', trodAll_mk1 (shut_bool Try.underlying4 _), (trodAll_cons_mk (Below.trod laidOut (by kernel_rfl) (of_decide_eq_true (by kernel_rfl)) k0 bel lt0) (trodAll_cons_mk (Below.trod laidOut (by kernel_rfl) (of_decide_eq_true (by kernel_rfl)) k1 bel lt1) (trodAll_cons_mk (Below.trod laidOut (by kernel_rfl) (of_decide_eq_true (by kernel_rfl)) k2 bel lt2) trodAll_mk0))), rfl, bel.frame _, fun h => by cases h⟩
theorem over : Rows.digestTextsRow.holds Try.pinned (OpenSpec.ofChange Rows.digestTextsSpec) :=
  OpenClaim.holds_of_wide 4 Try.f4 rfl rfl rfl rfl rfl rfl rfl ⟨rfl, rfl, rfl, rfl, rfl⟩ rfl rfl rfl rfl rfl (by kernel_rfl) Try.func4 (by kernel_rfl)
    (of_decide_eq_true (by kernel_rfl)) (by unfold Func.isWrapper; first | (rw [if_pos (by decide +kernel)]; kernel_rfl) | (rw [if_neg (by decide +kernel)]; exact ⟨rfl, rfl⟩))
    (fun os started H enc _ => lifted os started H enc)
theorem proved : Rows.DigestTextsSaid := over
#print axioms proved
end Go.Proofs.Ytikicibbbeofnaa.digestTexts
namespace Go.Proofs.Ytikicibbbeofnaa
/-- The row, under a short name, for the claim. -/
theorem digestTexts_holds : Rows.DigestTextsSaid := digestTexts.proved
end Go.Proofs.Ytikicibbbeofnaa
