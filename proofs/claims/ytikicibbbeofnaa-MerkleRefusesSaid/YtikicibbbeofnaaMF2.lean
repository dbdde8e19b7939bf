-- Written by wip/hprint.py (this session's) with the kit's printer and contracts of our own. Not trusted: Lean checks it.
import Derived.Test.YtikicibbbeofnaaMF0
import Derived.Test.YtikicibbbeofnaaMF1
namespace Go.Proofs.Ytikicibbbeofnaa.MF
open Go.RowKit Go.Proofs.YtikicibbbeofnaaW.PrintWords Go.Proofs.YtikicibbbeofnaaW.PrintLast Go.Proofs.YtikicibbbeofnaaW.PrintMore
attribute [local go_sem] max2_int min2_int max_two min_two max_three min_three max_four min_four   -- for this text's walks alone
set_option linter.unusedVariables false
set_option linter.unusedSimpArgs false

/-! ### merkle_pairs: function 55 -/
section
open Go.Shelf
attribute [local go_sem] Oper.semAt_some
def dirs : Nat → Nat → Nat → List Bool
  | 0, _, _ => []
  | f + 1, n, i => if n ≤ 1 then [] else if i < half n then true :: dirs f (half n) i else false :: dirs f (n - half n) (i - half n)
theorem info4s : (Try.prog.info? 4).map (fun i => (i.zero, i.size, i.bytes)) = some (some (.bool false), 1, 1) := by kernel_rfl
/-- what the iterator has turned before its first round: its two boxes b1, b1 + 1, and new blocks -/
theorem stuck_here {p : Prop} (h : Go.RowKit.Hid p) : p := h
def boxN (w : World) (b : Nat) : Nat := match w.heap[b]? with
  | some (.cells cs _ _) => (intOf (cs.getD 0 undef)).toNat
  | _ => 0
structure SKeep (b1 : Nat) (W W1 : World) : Prop where
  below : Below b1 W W1
  behind : ∀ i, i < W.heap.size → b1 + 1 < i → W1.heap[i]? = W.heap[i]?
  size : W.heap.size ≤ W1.heap.size
theorem boxN_at {w : World} {b : Nat} {n : Nat} {T : TypeId} {fr : Nat × Nat} (h : w.heap[b]? = some (.cells #[.int .i64 (n : Int)] T fr)) : boxN w b = n := by
  unfold boxN; rw [h]; rfl
theorem boxN_drew (w : World) (b : Nat) : boxN w.drew b = boxN w b := rfl
theorem own_ne_low {w : World} {base i n : Nat} {e : TypeId} {size : Nat} {v : Value} {xs : List Value} (h : w.ownsRow base e size v n xs) (hi : i < base) : some i ≠ v.ownBlock := fun h2 => by have := own_base h i h2.symm; omega
theorem SKeep.set {b1 b : Nat} {W w : World} (h : SKeep b1 W w) (hb : b1 ≤ b) (hb2 : b ≤ b1 + 1) (u : Value) : SKeep b1 W (w.setCell ⟨b, 0, none⟩ u) := by
  refine ⟨h.below.setCell (p := ⟨b, 0, none⟩) hb _, fun i h1 h2 => ?_, ?_⟩
  · rw [← h.behind i h1 h2]; exact Below.heap_setCell w ⟨b, 0, none⟩ u i (by simp; omega)
  · have := h.size; simpa [World.setCell] using this
theorem SKeep.drew {b1 : Nat} {W w : World} (h : SKeep b1 W w) : SKeep b1 W w.drew := ⟨below_drew h.below, h.behind, h.size⟩
theorem own_drew {w : World} {base n : Nat} {e : TypeId} {size : Nat} {v : Value} {xs : List Value} (h : w.ownsRow base e size v n xs) : w.drew.ownsRow base e size v n xs := pw_own_below h (below_drew (Below.refl _ _))
theorem sides_grown {b1 n : Nat} {W wq w1 : World} {vp v2 u : Value} {acc : List Bool} {b : Bool} {x1 x2 : Value} (HO : wq.ownsRow W.heap.size 4 1 vp acc.length (acc.map Value.bool)) (hb2 : b1 + 1 < W.heap.size)
    (HB : wq.heap[b1]? = some (.cells #[x1] 3 (0, 0)) ∧ wq.heap[b1 + 1]? = some (.cells #[x2] 3 (0, 0))) (HK : SKeep b1 W wq)
    (hown : w1.ownsRow W.heap.size 4 1 v2 n ((acc.map Value.bool) ++ [.bool b])) (hn : n = acc.length + 1) (hgrow : (wq.alloc (.cells #[u] 4)).grownBy w1 vp.ownBlock) :
    Aside0 (w1.ownsRow W.heap.size 4 1 v2 (acc ++ [b]).length ((acc ++ [b]).map Value.bool)) ∧ Aside0 (w1.heap[b1]? = some (.cells #[x1] 3 (0, 0)) ∧ w1.heap[b1 + 1]? = some (.cells #[x2] 3 (0, 0))) ∧ Aside0 (SKeep b1 W w1) := by
  have hbl : ∀ i, i < wq.heap.size → some i ≠ vp.ownBlock → w1.heap[i]? = wq.heap[i]? := fun i h1 h2 => (hgrow.block i (by simp; omega) h2).trans (Below.heap_alloc _ _ _ h1)
  have hne : ∀ i, i < W.heap.size → some i ≠ vp.ownBlock := fun i h1 h2 => by have := own_base HO i h2.symm; omega
  have hsz := HK.size
  refine ⟨⟨?_⟩, ⟨?_, ?_⟩, ⟨?_⟩⟩
  · subst hn; rw [List.map_append, List.length_append]; exact hown
  · rw [hbl b1 (by omega) (hne _ (by omega))]; exact HB.1
  · rw [hbl (b1 + 1) (by omega) (hne _ (by omega))]; exact HB.2
  · refine ⟨HK.below.trans (pw_below_grown ((Below.refl _ _).alloc (by have := HK.below.size; omega) _) vp.ownBlock (by simp; omega) hgrow fun k hk => ?_), fun i h1 h2 => ?_, ?_⟩
    · have := own_base HO k hk; omega
    · rw [hbl i (by omega) (hne _ h1)]; exact HK.behind i h1 h2
    · have := hgrow.size; simp at this; omega
set_option maxRecDepth 100000 in
set_option maxHeartbeats 8000000 in
theorem sides1_in (F : Fence) (n : Nat) (h6 : F.fn 60) (hro : F.round = none) (hn : 1 ≤ n) (l b1 N I : Nat) (D : List Bool) (hN : N ≤ 4096) (hI : I < N) (W : World)
    (hc1 : W.heap[b1]? = some (.cells #[.int .i64 (N : Int)] 3 (0, 0))) (hc2 : W.heap[b1 + 1]? = some (.cells #[.int .i64 (I : Int)] 3 (0, 0)))
    (J : Value → Nat → World → Prop) (hJr : ∀ v k W1, J v k W1 → W1.ownsRow W.heap.size 4 1 v D.length (D.map Value.bool)) (Jx : World → Prop) (hD : D = dirs N N I)
    (hJ0 : ∀ v W1, SKeep b1 W W1 → W1.ownsRow W.heap.size 4 1 v D.length (D.map Value.bool) → J v 0 W1)
    (hY : ∀ r k W1, J r k W1 → k < D.length → YieldAt F (n - 1) Try.prog l #[.bool (D.reverse.getD k false)] W1 fun e W' => (e = .returned (.bool true) ∧ J r (k + 1) W') ∨ (e = .returned (.bool false) ∧ Jx W')) :
    CallsIn F n Try.prog 60 #[.func (.yield l) #[] #[], .pointer (some ⟨b1, 0, none⟩), .pointer (some ⟨b1 + 1, 0, none⟩)] W fun e W' => (∃ v, e = .returned v) ∧ ((∃ r, J r D.length W') ∨ Jx W') := by
  obtain ⟨i0, hi, hz0, hz1, hz2⟩ := info_parts info4s
  refine callsIn_of_wp Try.func60 rfl h6 ?_ hro
  simp only [Try.ntmps60, List.size_toArray, List.length_cons, List.length_nil, Nat.reduceAdd, Nat.reduceSub, Array.replicate_succ, Array.replicate_zero, List.push_toArray, List.append_toArray, List.nil_append, List.cons_append]
  gi_wp2
  have hb2 : b1 + 1 < W.heap.size := (Array.getElem?_eq_some_iff.1 hc2).1
  gi_loopw [4] (fun v4 wr => ∃ (wq : World) (nn ii f : Nat) (acc : List Bool) (vp : Value), wq = wr ∧ vp = v4 ∧ Aside0 (wq.heap[b1]? = some (.cells #[.int .i64 (nn : Int)] 3 (0, 0)) ∧ wq.heap[b1 + 1]? = some (.cells #[.int .i64 (ii : Int)] 3 (0, 0))) ∧ Aside0 (ii < nn ∧ nn ≤ 4096 ∧ nn ≤ f ∧ acc.length + nn ≤ 4097 ∧ acc ++ dirs f nn ii = D) ∧ Aside0 (wq.ownsRow W.heap.size 4 1 vp acc.length (acc.map Value.bool)) ∧ Aside0 (SKeep b1 W wq)) (fun _ wr => boxN wr b1)
  case atStart => exact ⟨_, N, I, N, [], _, rfl, rfl, ⟨hc1, hc2⟩, ⟨hI, hN, Nat.le_refl _, by simp; omega, hD.symm⟩, ⟨World.ownsRow_nil _ _ _ _⟩, ⟨⟨Below.refl _ _, fun _ _ _ => rfl, Nat.le_refl _⟩⟩⟩
  case round =>
    clear hc1 hc2
    obtain ⟨wq, nn, ii, f, acc, vp, rfl, rfl, HB, HF, HO, HK⟩ := hrel
    have hx1 : wq.cell? ⟨b1, 0, none⟩ = some (.int .i64 (nn : Int)) := blk_cell HB.out.1 0
    have hx2 : wq.cell? ⟨b1 + 1, 0, none⟩ = some (.int .i64 (ii : Int)) := blk_cell HB.out.2 0
    have hf1 : wq.frozen? ⟨b1, 0, none⟩ = false := blk_frozen HB.out.1 0
    have hf2 : wq.frozen? ⟨b1 + 1, 0, none⟩ = false := blk_frozen HB.out.2 0
    by_cases hlt : 1 < nn
    · have hltb : decide ((1 : Int) < (nn : Int)) = true := decide_eq_true (by omega)
      have HH := Aside0.mk (half_is nn (by omega))
      obtain ⟨m, rfl⟩ : ∃ m, f = m + 1 := ⟨f - 1, by have := HF.out.2.2.1; omega⟩
      have hm := HF.out.2.1
      gi_wp2
      gi_loop [5] (fun v5 => ∃ j : Nat, v5 = .int .i64 ((2 ^ j : Nat) : Int) ∧ Aside0 (2 ^ j < nn)) (fun v5 => nn - (intOf v5).toNat)
      case atStart => exact ⟨0, rfl, ⟨by rw [Nat.pow_zero]; omega⟩⟩
      case round =>
        obtain ⟨j, rfl, HJ⟩ := hrel
        have hj := HJ.out
        have hj1 : 1 ≤ 2 ^ j := Nat.one_le_two_pow
        have HS := Aside0.mk (show 2 ^ (j + 1) = 2 ^ j * 2 from Nat.pow_succ _ _)
        have HQ := Aside0.mk (fun (hc : nn ≤ 2 * 2 ^ j) => (half_is nn (by omega)).unique ⟨⟨j, rfl⟩, hj, hc⟩)
        generalize 2 ^ j = k at hj hj1 HS HQ
        clear HJ HH
        by_cases hk2 : 2 * k < nn
        · have h3 : decide ((2 : Int) * (k : Int) < (nn : Int)) = true := by simp; omega
          gi_wp2
          exact ⟨⟨j + 1, by rw [HS.out]; exact congrArg (Value.int .i64) (by omega), ⟨by rw [HS.out]; omega⟩⟩, by simp [intOf]; omega⟩
        · have h3 : decide ((2 : Int) * (k : Int) < (nn : Int)) = false := by simp; omega
          have HEQ := Aside0.mk (HQ.out (by omega))
          clear HQ
          by_cases hik : ii < k
          · have h4 : decide (ii < k) = true := decide_eq_true hik
            have h4' : decide ((ii : Int) < (k : Int)) = true := decide_eq_true (by omega)
            gi_wp2_with (gi_at_builtin; refine stuck_here ?_)
            refine Lib.hid ?_
            refine wpListIn_append_own _ rfl _ _ 79 rfl W.heap.size 4 i0 (.bool false) 1 1 Try.underlying79 hi hz0 hz1 hz2 rfl (by decide) _ _ _ rfl (HO.out.alloc _) ⟨wq.heap.size, 0, none⟩ 1 1 [.bool true] rfl rfl (cell_one_new _ _ _) (by simp [Value.oneCell']) ?_ ?_ ?_ ?_
            · have := HF.out.2.2.2.1; unfold maxLen; omega
            · have := HF.out.2.2.2.1; omega
            · have := HK.out.size; simp; omega
            intro v2 w1 hown hgrow _
            obtain ⟨HO2, HB2, HK2⟩ := sides_grown HO.out hb2 HB.out HK.out hown rfl hgrow
            have hx1 : w1.cell? ⟨b1, 0, none⟩ = some (.int .i64 (nn : Int)) := blk_cell HB2.out.1 0
            have hx2 : w1.cell? ⟨b1 + 1, 0, none⟩ = some (.int .i64 (ii : Int)) := blk_cell HB2.out.2 0
            have hf1 : w1.frozen? ⟨b1, 0, none⟩ = false := blk_frozen HB2.out.1 0
            have hf2 : w1.frozen? ⟨b1 + 1, 0, none⟩ = false := blk_frozen HB2.out.2 0
            clear hown hgrow
            gi_wp2
            have hkn : dirs (m + 1) nn ii = true :: dirs m k ii := by simp only [dirs]; rw [if_neg (by omega), HEQ.out, if_pos hik]
            refine ⟨⟨_, k, ii, m, acc ++ [true], _, rfl, rfl, ⟨blk_set HB2.out.1 0 _, blk_far HB2.out.2 (by simp) _⟩, ⟨hik, by omega, ?_, ?_, ?_⟩, ⟨own_setCell HO2.out (p := ⟨b1, 0, none⟩) (own_ne_low (i := b1) HO2.out (by omega)) _⟩, ⟨HK2.out.set (Nat.le_refl _) (by simp) _⟩⟩, ?_⟩
            · have := HF.out.2.2.1; omega
            · have := HF.out.2.2.2.1; rw [List.length_append, List.length_singleton]; omega
            · have := HF.out.2.2.2.2; rw [hkn] at this; rw [List.append_assoc]; exact this
            · rw [boxN_at (blk_set HB2.out.1 0 _), boxN_at HB.out.1]; omega
          · have h4 : decide (ii < k) = false := decide_eq_false hik
            have h4' : decide ((ii : Int) < (k : Int)) = false := decide_eq_false (by omega)
            gi_wp2_with (gi_at_builtin; refine stuck_here ?_)
            refine Lib.hid ?_
            refine wpListIn_append_own _ rfl _ _ 79 rfl W.heap.size 4 i0 (.bool false) 1 1 Try.underlying79 hi hz0 hz1 hz2 rfl (by decide) _ _ _ rfl (HO.out.alloc _) ⟨wq.heap.size, 0, none⟩ 1 1 [.bool false] rfl rfl (cell_one_new _ _ _) (by simp [Value.oneCell']) ?_ ?_ ?_ ?_
            · have := HF.out.2.2.2.1; unfold maxLen; omega
            · have := HF.out.2.2.2.1; omega
            · have := HK.out.size; simp; omega
            intro v2 w1 hown hgrow _
            obtain ⟨HO2, HB2, HK2⟩ := sides_grown HO.out hb2 HB.out HK.out hown rfl hgrow
            have hx1 : w1.cell? ⟨b1, 0, none⟩ = some (.int .i64 (nn : Int)) := blk_cell HB2.out.1 0
            have hx2 : w1.cell? ⟨b1 + 1, 0, none⟩ = some (.int .i64 (ii : Int)) := blk_cell HB2.out.2 0
            have hf1 : w1.frozen? ⟨b1, 0, none⟩ = false := blk_frozen HB2.out.1 0
            have hf2 : w1.frozen? ⟨b1 + 1, 0, none⟩ = false := blk_frozen HB2.out.2 0
            have hin := HF.out.1
            have hs1 : 0 ≤ (nn : Int) - (k : Int) := by omega
            have hs2 : 0 ≤ (ii : Int) - (k : Int) := by omega
            clear hown hgrow
            gi_wp2
            have hw1 : IntKind.i64.wrap ((nn : Int) - (k : Int)) = ((nn - k : Nat) : Int) := by rw [IntKind.wrap_i64]; omega
            have hw2 : IntKind.i64.wrap ((ii : Int) - (k : Int)) = ((ii - k : Nat) : Int) := by rw [IntKind.wrap_i64]; omega
            have HW := Aside0.mk (And.intro hw1 hw2)
            clear hw1 hw2
            have hkn : dirs (m + 1) nn ii = false :: dirs m (nn - k) (ii - k) := by simp only [dirs]; rw [if_neg (by omega), HEQ.out, if_neg hik]
            have HNN := Aside0.mk (show ii - k < nn - k ∧ nn - k ≤ 4096 ∧ nn - k ≤ m ∧ acc.length + 1 + (nn - k) ≤ 4097 ∧ nn - k < nn ∧ acc ++ false :: dirs m (nn - k) (ii - k) = D from ⟨by omega, by omega, by have := HF.out.2.2.1; omega, by have := HF.out.2.2.2.1; omega, by omega, by have := HF.out.2.2.2.2; rwa [hkn] at this⟩)
            have hlow : b1 < W.heap.size := by omega
            clear hkn
            gi_region
            all_goals gi_wp2
            all_goals
              rw [HW.out.1, HW.out.2]
              have hB1 := blk_set HB2.out.1 0 (Value.int .i64 ((nn - k : Nat) : Int))
              have hB2 := blk_far HB2.out.2 (p := ⟨b1, 0, none⟩) (by simp) (Value.int .i64 ((nn - k : Nat) : Int))
              have hC1 := blk_far hB1 (p := ⟨b1 + 1, 0, none⟩) (by simp) (Value.int .i64 ((ii - k : Nat) : Int))
              have hC2 := blk_set hB2 0 (Value.int .i64 ((ii - k : Nat) : Int))
              have hO1 := own_setCell HO2.out (p := ⟨b1, 0, none⟩) (own_ne_low (i := b1) HO2.out hlow) (Value.int .i64 ((nn - k : Nat) : Int))
              have hO3 := own_setCell hO1 (p := ⟨b1 + 1, 0, none⟩) (own_ne_low (i := b1 + 1) hO1 hb2) (Value.int .i64 ((ii - k : Nat) : Int))
              have hK3 := ((HK2.out.set (Nat.le_refl _) (Nat.le_succ _) (Value.int .i64 ((nn - k : Nat) : Int))).set (b := b1 + 1) (Nat.le_succ _) (Nat.le_refl _) (Value.int .i64 ((ii - k : Nat) : Int)))
              generalize World.setCell (World.setCell w1 _ _) _ _ = w3 at hC1 hC2 hO3 hK3 ⊢
              refine ⟨⟨_, nn - k, ii - k, m, acc ++ [false], _, rfl, rfl, ⟨hC1, hC2⟩, ⟨HNN.out.1, HNN.out.2.1, HNN.out.2.2.1, ?_, ?_⟩, ⟨own_drew hO3⟩, ⟨SKeep.drew hK3⟩⟩, ?_⟩
              · rw [List.length_append, List.length_singleton]; exact HNN.out.2.2.2.1
              · rw [List.append_assoc]; exact HNN.out.2.2.2.2.2
              · rw [boxN_drew, boxN_at hC1, boxN_at HB.out.1]; exact HNN.out.2.2.2.2.1
    · have hltb : decide ((1 : Int) < (nn : Int)) = false := decide_eq_false (by omega)
      have hacc : acc = D := by
        have h := HF.out
        have e : dirs f nn ii = [] := by
          cases f with
          | zero => rfl
          | succ f => simp only [dirs]; rw [if_pos (by omega)]
        have := h.2.2.2.2
        rwa [e, List.append_nil] at this
      subst hacc
      have hal : (acc.length : Int) ≤ 4097 := by have := HF.out.2.2.2.1; omega
      have hal1 : -1 ≤ (acc.length : Int) - 1 := by omega
      have HJ := Aside0.mk (hJ0 vp wq HK.out HO.out)
      obtain ⟨a1, cp, rfl⟩ := own_slice HO.out
      obtain ⟨N2, hN2⟩ : ∃ N2, N2 = acc.length := ⟨_, rfl⟩
      have HN := Aside0.mk hN2
      rw [← hN2] at hal hal1 HO HJ ⊢
      clear hN2 HF HB HK hlt hx2 hf1 hf2
      gi_wp2
      gi_loopw [6] (fun v6 wr => ∃ (wp : World) (r : Nat), wp = wr ∧ v6 = .int .i64 ((r : Int) - 1) ∧ r ≤ N2 ∧ Aside0 (J (.slice a1 N2 cp) (N2 - r) wr)) (fun v6 _ => (intOf v6 + 1).toNat)
      case atStart => exact ⟨_, N2, rfl, rfl, Nat.le_refl _, by rw [Nat.sub_self]; exact HJ⟩
      case round =>
        clear HJ HO hx1
        obtain ⟨wp, r, rfl, rfl, hr, HJ⟩ := hrel
        by_cases hpos : 0 < r
        · obtain ⟨q, rfl⟩ : ∃ q, r = q + 1 := ⟨r - 1, by omega⟩
          have hrow := hJr _ _ _ HJ.out
          rw [← HN.out] at hrow
          obtain ⟨bv, hbv⟩ : ∃ b, b = acc.reverse.getD (N2 - (q + 1)) false := ⟨_, rfl⟩
          have hlen := HN.out
          have hbq : bv = rdOf false acc (q : Int) := by
            rw [hbv]
            unfold rdOf
            rw [Int.toNat_natCast, List.getD_eq_getElem?_getD, List.getD_eq_getElem?_getD, List.getElem?_reverse (by omega)]
            congr 2
            omega
          obtain ⟨fn, tmps, assign, body, hy, hR⟩ := hY _ _ _ HJ.out (by omega)
          rw [← hbv] at hy
          have HY := Aside0.mk (show N2 - (q + 1) + 1 = N2 - q by omega)
          obtain ⟨g, cap, hv, _⟩ := hrow.form (by omega)
          obtain ⟨rfl, _, rfl⟩ := Value.slice.inj hv
          have hcl : wp.cell? ⟨g, q, none⟩ = some (.bool bv) := by rw [hbq]; exact (own_at_of (enc := Value.bool) hrow (q : Int) (by omega) (by omega)).1
          have hq1 : (q : Int) < (N2 : Int) := by omega
          have hq0 : (((q + 1 : Nat) : Int) - 1) = (q : Int) := by omega
          rw [hq0]
          clear hq0 hv hrow hbq hbv hlen hpos
          gi_wp2
          refine hR.mono ?_
          rintro e W3 (⟨rfl, hJ3⟩ | ⟨rfl, hJx⟩)
          · gi_wp2
            go_roundw
            · exact ⟨_, q, rfl, rfl, by omega, ⟨by rw [← HY.out]; exact hJ3⟩⟩
            · simp [intOf]
          · gi_wp2
            refine bodyPost_ret (results_none rfl _ _ _) rfl ?_
            exact ⟨⟨_, rfl⟩, .inr hJx⟩
        · obtain rfl : r = 0 := by omega
          have HE := Aside0.mk (show J (.slice a1 N2 cp) acc.length wp from by have := HJ.out; rw [← HN.out]; exact this)
          clear HJ HN hJr hJ0 hY
          gi_wp2
          go_end0
          exact ⟨⟨_, rfl⟩, .inl ⟨_, HE.out⟩⟩
/-- a drawn region of plain operations and calls, in a wide fence or a round of it, from the unfenced words -/
theorem oper_wp_in {l n : Nat} {P : Program} {o : Oper} {a : Act} {w : World} {K K' : Act → World → Prop} {Q : Exit → Act → World → Prop} (hnd : ∀ c, o.op ≠ .defer c) (hK : ∀ a w, K a w → K' a w) (h : o.wp P a w K Q) :
    o.wpIn (Fence.wide.inRound l) n P a w K' Q := by
  unfold Oper.wp at h
  unfold Oper.wpIn
  refine ⟨fun _ _ => trivial, ?_⟩
  rw [Fence.inRound_round, Oper.semAt_some l _ _ hnd]
  generalize (execOp a.eval o).run P w = r at *
  cases r with
  | ok x w' =>
    cases x with
    | value v => exact hK _ _ h
    | skip => exact hK _ _ h
    | «defer» d => exact hK _ _ h
    | enter f args =>
      refine ⟨fun hh => by simp [Fence.wide] at hh, CallsIn.inRound l (callsIn_wide.2 (Go.Calls.mono h ?_))⟩
      intro e w2 h2
      cases e with
      | returned v => exact hK _ _ h2
      | panicked c => exact h2
      | outgrown => exact h2
    | row row args =>
      refine ⟨fun hh => by simp [Fence.wide] at hh, fun c cs _ => ?_⟩
      obtain ⟨v, w2, r, s⟩ := h c cs
      exact ⟨v, w2, hK _ _ r, stepsIn_wide.2 s⟩
    | _ => exact h.elim
  | halt s w' =>
    cases s with
    | panic v => exact h
    | _ => exact h.elim
theorem wpOps_in {l n : Nat} {P : Program} {ops : Array Oper} {Q : Exit → Act → World → Prop} (hnd : ∀ o ∈ ops, ∀ c, o.op ≠ .defer c) (hQ : ¬ LetsOut Q) : ∀ (is : List Nat) (a : Act) (w : World), wpOps P ops Q is a w → wpOpsIn (Fence.wide.inRound l) n P ops Q is a w
  | [], a, w, h => h
  | i :: is, a, w, h => by
    unfold wpOps at h
    unfold wpOpsIn
    cases ho : ops[i]? with
    | none => rw [ho] at h; exact wpOps_in hnd hQ is a w h
    | some o =>
      rw [ho] at h
      simp only at h ⊢
      split at h
      · rename_i hw
        rw [if_pos hw]
        rcases h with h | ⟨_, h⟩
        · exact oper_wp_in (hnd o (Array.mem_of_getElem? ho)) (fun a w => wpOps_in hnd hQ is a w) h
        · exact absurd h hQ
      · rename_i hw
        rw [if_neg hw]
        exact ⟨fun _ _ => trivial, wpOps_in hnd hQ is _ w h⟩
theorem region_round {l n : Nat} {P : Program} {id : Nat} {ops : Array Oper} {Q : Exit → Act → World → Prop} {a : Act} {w : World} (hm : P.follows .mixedOrders = true) (hnd : ∀ o ∈ ops, ∀ c, o.op ≠ .defer c) (hQ : ¬ LetsOut Q)
    (h : wpAny P .any ops Q ops.size (Array.replicate ops.size false) a w.drew) : (Code.region id ops true).wpIn (Fence.wide.inRound l) n P Q a w :=
  wpIn_region_draw fun t => wpOps_in hnd hQ _ _ _ (by
    simp only [Region.schedule, hm, Bool.true_or, if_true]
    exact wpAny_sound ops.size t _ a _ h)
theorem startR_ {l n : Nat} {P : Program} {id m : Nat} {ops : Array Oper} {Q : Exit → Act → World → Prop} {S : World → Prop} {ds : List Nat} {a : Act} {w : World} (lb : Array Bool) (hm : P.follows .mixedOrders = true) (hnd : (ops.all fun o => match o.op with | .defer _ => false | _ => true) = true) (hQ : ¬ LetsOut Q)
    (hn : ops.size = m) (hl : Array.replicate m false = lb) (hS : S w.drew) (h : S w.drew → wpAnyLast P .any ops Q S ds m lb a w.drew) : (Code.region id ops true).wpIn (Fence.wide.inRound l) n P Q a w := by
  subst hn
  subst hl
  refine region_round hm (fun o ho c hc => ?_) hQ (wpAny_of_last _ _ _ _ (h hS))
  obtain ⟨i, hi, rfl⟩ := Array.getElem_of_mem ho
  have := Array.all_eq_true.1 hnd i hi
  rw [hc] at this
  cases this
/-- a drawn region of plain operations and calls, in a wide fence or a round of it, from the unfenced words -/
theorem oper_wp_w {n : Nat} {P : Program} {o : Oper} {a : Act} {w : World} {K K' : Act → World → Prop} {Q : Exit → Act → World → Prop} (hnd : ∀ c, o.op ≠ .defer c) (hK : ∀ a w, K a w → K' a w) (h : o.wp P a w K Q) :
    o.wpIn Fence.wide n P a w K' Q := by
  unfold Oper.wp at h
  unfold Oper.wpIn
  refine ⟨fun _ _ => trivial, ?_⟩
  show Oper.uponIn Fence.wide n P o a K' Q ((execOp a.eval o).run P w)
  generalize (execOp a.eval o).run P w = r at *
  cases r with
  | ok x w' =>
    cases x with
    | value v => exact hK _ _ h
    | skip => exact hK _ _ h
    | «defer» d => exact hK _ _ h
    | enter f args =>
      refine ⟨fun hh => by simp [Fence.wide] at hh, callsIn_wide.2 (Go.Calls.mono h ?_)⟩
      intro e w2 h2
      cases e with
      | returned v => exact hK _ _ h2
      | panicked c => exact h2
      | outgrown => exact h2
    | row row args =>
      refine ⟨fun hh => by simp [Fence.wide] at hh, fun c cs _ => ?_⟩
      obtain ⟨v, w2, r, s⟩ := h c cs
      exact ⟨v, w2, hK _ _ r, stepsIn_wide.2 s⟩
    | _ => exact h.elim
  | halt s w' =>
    cases s with
    | panic v => exact h
    | _ => exact h.elim
theorem wpOps_w {n : Nat} {P : Program} {ops : Array Oper} {Q : Exit → Act → World → Prop} (hnd : ∀ o ∈ ops, ∀ c, o.op ≠ .defer c) (hQ : ¬ LetsOut Q) : ∀ (is : List Nat) (a : Act) (w : World), wpOps P ops Q is a w → wpOpsIn Fence.wide n P ops Q is a w
  | [], a, w, h => h
  | i :: is, a, w, h => by
    unfold wpOps at h
    unfold wpOpsIn
    cases ho : ops[i]? with
    | none => rw [ho] at h; exact wpOps_w hnd hQ is a w h
    | some o =>
      rw [ho] at h
      simp only at h ⊢
      split at h
      · rename_i hw
        rw [if_pos hw]
        rcases h with h | ⟨_, h⟩
        · exact oper_wp_w (hnd o (Array.mem_of_getElem? ho)) (fun a w => wpOps_w hnd hQ is a w) h
        · exact absurd h hQ
      · rename_i hw
        rw [if_neg hw]
        exact ⟨fun _ _ => trivial, wpOps_w hnd hQ is _ w h⟩
theorem region_w {n : Nat} {P : Program} {id : Nat} {ops : Array Oper} {Q : Exit → Act → World → Prop} {a : Act} {w : World} (hm : P.follows .mixedOrders = true) (hnd : ∀ o ∈ ops, ∀ c, o.op ≠ .defer c) (hQ : ¬ LetsOut Q)
    (h : wpAny P .any ops Q ops.size (Array.replicate ops.size false) a w.drew) : (Code.region id ops true).wpIn Fence.wide n P Q a w :=
  wpIn_region_draw fun t => wpOps_w hnd hQ _ _ _ (by
    simp only [Region.schedule, hm, Bool.true_or, if_true]
    exact wpAny_sound ops.size t _ a _ h)
theorem startW_ {n : Nat} {P : Program} {id m : Nat} {ops : Array Oper} {Q : Exit → Act → World → Prop} {S : World → Prop} {ds : List Nat} {a : Act} {w : World} (lb : Array Bool) (hm : P.follows .mixedOrders = true) (hnd : (ops.all fun o => match o.op with | .defer _ => false | _ => true) = true) (hQ : ¬ LetsOut Q)
    (hn : ops.size = m) (hl : Array.replicate m false = lb) (hS : S w.drew) (h : S w.drew → wpAnyLast P .any ops Q S ds m lb a w.drew) : (Code.region id ops true).wpIn Fence.wide n P Q a w := by
  subst hn
  subst hl
  refine region_w hm (fun o ho c hc => ?_) hQ (wpAny_of_last _ _ _ _ (h hS))
  obtain ⟨i, hi, rfl⟩ := Array.getElem_of_mem ho
  have := Array.all_eq_true.1 hnd i hi
  rw [hc] at this
  cases this
theorem info59p : (Try.prog.info? 59).map (fun i => (i.zero, i.size, i.bytes)) = some (some (.agg #[.int .u64 0, .int .u64 0]), 2, 16) := by kernel_rfl
def Keep2 (h : Nat) (W W' : World) : Prop := W'.heap[h]? = W.heap[h]? ∧ W'.heap[h + 1]? = W.heap[h + 1]?
theorem rangeFunc_sides {F : Fence} {n : Nat} {g : Operand} {ps : Array Tmp} {assign body : Code} {Q : Exit → Act → World → Prop} {a : Act} {w : World}
    (hro : F.round = none) (h1 : 2 ≤ n) (hF : F.fn 60) (N I b1 : Nat) (hg : a.eval g = .func (.func 60) #[] #[.pointer (some ⟨b1, 0, none⟩), .pointer (some ⟨b1 + 1, 0, none⟩)]) (hN : N ≤ 4096) (hI : I < N)
    (hc1 : w.heap[b1]? = some (.cells #[.int .i64 (N : Int)] 3 (0, 0))) (hc2 : w.heap[b1 + 1]? = some (.cells #[.int .i64 (I : Int)] 3 (0, 0))) (D : List Bool) (hD : D = dirs N N I) (hps : ps.size = 1)
    (J : Value → Nat → World → Prop) (Jx : World → Prop) (hJr : ∀ v k W, J v k W → W.ownsRow (w.heap.size + 2) 4 1 v D.length (D.map Value.bool))
    (hJ0 : ∀ v W, Below b1 w W → (∀ i, i < w.heap.size → b1 + 1 < i → W.heap[i]? = w.heap[i]?) → w.heap.size + 2 ≤ W.heap.size → W.ownsRow (w.heap.size + 2) 4 1 v D.length (D.map Value.bool) → J v 0 W)
    (hJl : ∀ v k W o, J v k W → w.heap.size + 1 < W.heap.size → J v k (W.putObj (w.heap.size + 1) o)) (hJxl : ∀ W o, Jx W → w.heap.size + 1 < W.heap.size → Jx (W.putObj (w.heap.size + 1) o))
    (a₁ : Bool → Act)
    (hassign : ∀ (l : Nat) (x : Bool) (W : World) (K : Act → World → Prop), K (a₁ x) W →
      assign.wpIn (F.inRound l) (n - 1 - 1) Try.prog (Exit.then K (fun _ _ _ => False)) { tmps := (ps.zip #[Value.bool x]).foldl (fun t (p, v) => t.setIfInBounds p v) a.tmps, defers := [] } W)
    (hbody : ∀ (l : Nat) (v : Value) (k : Nat) (W : World), J v k W → k < D.length → w.heap.size + 1 < W.heap.size →
      body.wpIn (F.inRound l) (n - 1 - 1) Try.prog (fun e _ W3 => Keep2 w.heap.size W W3 ∧ ((e = .normal ∧ J v (k + 1) W3) ∨ (e = .ret ∧ Jx W3))) (a₁ (D.reverse.getD k false)) W)
    (hdone : ∀ (v : Value) (W : World), J v D.length W → W.heap[w.heap.size]? = some (.deferred (some [])) → Q .normal { a with defers := { target := .collected w.heap.size, args := #[] } :: a.defers } W)
    (hstop : ∀ (W : World), Jx W → W.heap[w.heap.size]? = some (.deferred (some [])) → Code.ret.wpIn F n Try.prog Q { a with defers := { target := .collected w.heap.size, args := #[] } :: a.defers } W) :
    (Code.rangeFunc g ps assign body).wpIn F n Try.prog Q a w := by
  refine wpIn_rangeFunc ?_
  intro fn hfn
  rw [hro]
  obtain ⟨rec, hrec⟩ : ∃ rec : LoopState → Option Code → Loop, rec = fun st pe => { state := st, pending := pe, fn, tmps := a.tmps, params := ps, assign, body, defers := w.heap.size } := ⟨_, rfl⟩
  obtain ⟨W1, hW1⟩ : ∃ W1, (w.alloc (.deferred (some []))).alloc (.loop (rec .ready none)) = W1 := ⟨_, rfl⟩
  have hL1 : W1.heap[w.heap.size + 1]? = some (.loop (rec .ready none)) := by
    rw [← hW1]; have := World.alloc_heap_new (w.alloc (.deferred (some []))) (.loop (rec .ready none)); rwa [World.size_alloc] at this
  have hK1 : W1.heap[w.heap.size]? = some (.deferred (some [])) := by
    rw [← hW1]; exact (Below.heap_alloc _ _ _ (by simp)).trans (World.alloc_heap_new w _)
  have hs1 : W1.heap.size = w.heap.size + 2 := by rw [← hW1]; simp
  have hb1 : Below w.heap.size w W1 := by
    rw [← hW1]; exact ((Below.refl _ w).alloc (Nat.le_refl _) _).alloc (by simp) _
  have hlt2 : b1 + 1 < w.heap.size := (Array.getElem?_eq_some_iff.1 hc2).1
  refine ⟨w.heap.size + 1, [{ target := .collected w.heap.size, args := #[] }], W1, { target := .fn (.func 60) #[.pointer (some ⟨b1, 0, none⟩), .pointer (some ⟨b1 + 1, 0, none⟩)], args := #[.func (.yield (w.heap.size + 1)) #[] #[]] }, W1, 60,
    #[.func (.yield (w.heap.size + 1)) #[] #[]] ++ #[.pointer (some ⟨b1, 0, none⟩), .pointer (some ⟨b1 + 1, 0, none⟩)], W1, ?_, ?_, ?_, ?_, fun _ => by omega, ?_⟩
  · rw [← hW1, hrec]; exact run_enterLoop_outer _ _ _ _ _
  · simp only [resolve, hg]
    simp [go_sem]
  · intro f' hf'; simp [Target.leads] at hf'; subst hf'; exact hF
  · simp [invoke, go_sem, enters_of Try.func60 (by kernel_rfl) rfl]
  · have hN2 : ∀ i, i < w.heap.size → W1.heap[i]? = w.heap[i]? := fun i hi => hb1.block i hi
    refine (sides1_in F (n - 1) hF hro (by omega) (w.heap.size + 1) b1 N I D hN hI W1 ((hN2 _ (by omega)).trans hc1) ((hN2 _ hlt2).trans hc2)
      (fun v k W => J v k W ∧ W.heap[w.heap.size + 1]? = some (.loop (rec .ready none)) ∧ W.heap[w.heap.size]? = some (.deferred (some [])))
      (fun v k W h => by rw [hs1]; exact hJr v k W h.1)
      (fun W => Jx W ∧ W.heap[w.heap.size + 1]? = some (.loop (rec .done (some .ret))) ∧ W.heap[w.heap.size]? = some (.deferred (some []))) hD
      (fun v W hk ho => ⟨hJ0 v W ?_ ?_ ?_ ?_, (hk.behind _ (by omega) (by omega)).trans hL1, (hk.behind _ (by omega) (by omega)).trans hK1⟩) ?_).mono ?_
    · exact (hb1.mono (by omega)).trans hk.below
    · exact fun i h2 h3 => (hk.behind i (by omega) h3).trans (hN2 i h2)
    · have := hk.size; omega
    · rw [hs1] at ho; exact ho
    · rintro v k W ⟨hi, hl, hk⟩ hlen
      have hlt : w.heap.size + 1 < W.heap.size := (Array.getElem?_eq_some_iff.1 hl).1
      have hy := run_yield (P := Try.prog) (args := #[Value.bool (D.reverse.getD k false)]) hl (by rw [hrec]; exact hps.symm)
      rw [hrec] at hy
      refine ⟨fn, _, assign, body, hy, roundIn_of_wpIn hfn (hassign _ _ W _ ⟨_, run_beginRound hl (by rw [hrec]), ?_⟩)⟩
      have hl2 : (W.putObj (w.heap.size + 1) (.loop { rec .ready none with state := .busy })).heap[w.heap.size + 1]? = some (.loop { rec .ready none with state := .busy }) := World.putObj_heap_same hlt
      have hk2 : (W.putObj (w.heap.size + 1) (.loop { rec .ready none with state := .busy })).heap[w.heap.size]? = some (.deferred (some [])) := (World.putObj_heap_other (by omega)).trans hk
      refine wpIn_mono (hbody _ v k _ (hJl v k W _ hi hlt) hlen (Array.getElem?_eq_some_iff.1 hl2).1) ?_
      have fin : ∀ (jump : Option Code) (W3 : World), Keep2 w.heap.size (W.putObj (w.heap.size + 1) (.loop { rec .ready none with state := .busy })) W3 →
          (Instr.endRound (w.heap.size + 1) jump).run Try.prog W3 = .ok (.bool jump.isNone) (W3.putObj (w.heap.size + 1) (.loop (rec (if jump.isNone then .ready else .done) jump))) ∧ w.heap.size + 1 < W3.heap.size ∧
          (W3.putObj (w.heap.size + 1) (.loop (rec (if jump.isNone then .ready else .done) jump))).heap[w.heap.size + 1]? = some (.loop (rec (if jump.isNone then .ready else .done) jump)) ∧
          (W3.putObj (w.heap.size + 1) (.loop (rec (if jump.isNone then .ready else .done) jump))).heap[w.heap.size]? = some (.deferred (some [])) := fun jump W3 hk3 => by
        have hl3 := hk3.2.trans hl2
        have := run_endRound (P := Try.prog) jump hl3
        rw [hrec] at this ⊢
        exact ⟨this, (Array.getElem?_eq_some_iff.1 hl3).1, World.putObj_heap_same (Array.getElem?_eq_some_iff.1 hl3).1, (World.putObj_heap_other (by omega)).trans (hk3.1.trans hk2)⟩
      rintro e a3 W3 ⟨hk3, (⟨rfl, hi3⟩ | ⟨rfl, hi3⟩)⟩
      · obtain ⟨hr, hl3, hl4, hk4⟩ := fin none W3 hk3
        exact ⟨_, _, hr, .inl ⟨rfl, hJl _ _ _ _ hi3 hl3, hl4, hk4⟩⟩
      · obtain ⟨hr, hl3, hl4, hk4⟩ := fin (some .ret) W3 hk3
        exact ⟨_, _, hr, .inr ⟨rfl, hJxl _ _ hi3 hl3, hl4, hk4⟩⟩
    · rintro e W2 ⟨⟨v, rfl⟩, (⟨r, hi, hl, hk⟩ | ⟨hi, hl, hk⟩)⟩
      · exact ⟨none, _, by have := run_endLoop (P := Try.prog) hl (by rw [hrec]; simp); rw [hrec] at this; exact this, hdone _ _ (hJl _ _ _ _ hi (Array.getElem?_eq_some_iff.1 hl).1) ((World.putObj_heap_other (by omega)).trans hk)⟩
      · exact ⟨some .ret, _, by have := run_endLoop (P := Try.prog) hl (by rw [hrec]; simp); rw [hrec] at this; exact this, hstop _ (hJxl _ _ hi (Array.getElem?_eq_some_iff.1 hl).1) ((World.putObj_heap_other (by omega)).trans hk)⟩
theorem R_appendIn {F : Fence} {n : Nat} {P : Program} {ops : Array Oper} {rest : List Oper} {o : Oper} {a : Act} {Q : Exit → Act → World → Prop} {α : Type} (d : Kd α) {w0 W : World} (base : Nat) (hgd : o.guard = none) (s x : Operand) (t e : TypeId) (z : Value) (bytes : Nat)
    (ho : o.op = .call { callee := .builtin .append, args := #[s, x], argTypes := #[t, t] })
    (ht : P.underlying t = some (.slice e)) (hinfo : (P.info? e).map (fun i => (i.zero, i.size, i.bytes)) = some (some z, d.sz, bytes)) (hz : z.cells.size = d.sz) (hs0 : 0 < d.sz) (hb0 : 0 < bytes)
    (v : Value) (xs : List α) (p : α) (cs : List Value) (ok okp : Nat → Prop) (hs : a.eval s = v) (hx : a.eval x = .slice (some ⟨W.heap.size, 0, none⟩) 1 1) (hp : d.M W base okp p cs) (hokp : ∀ k, okp k → ok k ∧ some k ≠ v.ownBlock) (hfresh : ∀ k, W.heap.size ≤ k → ok k)
    (HO : d.R e W base ok v xs) (HB : Below base w0 W) (hbase : base ≤ W.heap.size) (hl : (xs.length + 1) * bytes ≤ 140737488355328)
    (h : ∀ v1 w1, d.R e w1 base ok v1 (xs ++ [p]) → Below base w0 w1 → W.grownBy w1 v.ownBlock → (v1.ownBlock = v.ownBlock ∨ ∃ b, v1.ownBlock = some b ∧ W.heap.size ≤ b) → wpListIn F n P ops Q rest (a.put o.dst v1) w1) :
    wpListIn F n P ops Q (o :: rest) a (W.alloc (.cells cs.toArray e)) := by
  obtain ⟨h0, inner, hown, hr⟩ := HO
  obtain ⟨i0, hi, hzz⟩ := Option.map_eq_some_iff.1 hinfo
  simp only [Prod.mk.injEq] at hzz
  obtain ⟨hz0, hz1, hz2⟩ := hzz
  have hys : cs.length = d.sz := d.K_len (d.K_of_M hp)
  have hlen : xs.length + 1 ≤ 140737488355328 := Nat.le_trans (Nat.le_mul_of_pos_right _ hb0) hl
  refine wpListIn_append_own_at (w := W.alloc (.cells cs.toArray e)) hgd s x t ho base e i0 z d.sz bytes ht hi hz0 hz1 hz2 hz hs0 v xs.length inner hs (hown.alloc _) ⟨W.heap.size, 0, none⟩ 1 1 cs hx (by rw [hys]; simp)
    (by simpa using World.news_of_block (cs := cs.toArray) (t := e) (fr := (0, 0)) (heap_alloc_new W (.cells cs.toArray e))) (d.K_one (d.K_of_M hp)) (by simp only [maxLen]; omega) hl (by simp; omega) ?_
  intro v1 w1 hown1 hg _ hat
  have hg1 : W.grownBy w1 v.ownBlock := World.grownBy.trans (World.grownBy_alloc W _ _) hg
  have hat1 : v1.ownBlock = v.ownBlock ∨ ∃ b, v1.ownBlock = some b ∧ W.heap.size ≤ b := hat.imp_right fun hh => ⟨_, hh, by simp⟩
  exact h v1 w1 (Kd.R_appended h0 hr hp hokp hfresh hown1 hg1 hat1) ((HB.alloc hbase _).grown hg (by simp; omega) (own_base hown)) hg1 hat1
def upN (D : List Bool) (p : List Int) (leaf : Int) : Nat → Int
  | 0 => joinV 0 leaf
  | k + 1 => if D.reverse.getD k false then joinV (upN D p leaf k) (rd p k) else joinV (rd p k) (upN D p leaf k)
def prN (D : List Bool) (p : List Int) (leaf : Int) (k : Nat) : S59 := if D.reverse.getD k false then ⟨upN D p leaf k, rd p k⟩ else ⟨rd p k, upN D p leaf k⟩
def prsN (D : List Bool) (p : List Int) (leaf : Int) (k : Nat) : List S59 := ⟨0, leaf⟩ :: (List.range k).map (prN D p leaf)
theorem prsN_succ (D : List Bool) (p : List Int) (leaf : Int) (k : Nat) : prsN D p leaf (k + 1) = prsN D p leaf k ++ [prN D p leaf k] := by
  unfold prsN; rw [List.range_succ]; simp
theorem prsN_length (D : List Bool) (p : List Int) (leaf : Int) (k : Nat) : (prsN D p leaf k).length = k + 1 := by unfold prsN; simp
theorem dirs_length : ∀ (f n i : Nat), (dirs f n i).length ≤ f
  | 0, _, _ => Nat.le_refl _
  | f + 1, n, i => by
    simp only [dirs]
    split
    · simp
    · split
      · rw [List.length_cons]; have := dirs_length f (half n) i; omega
      · rw [List.length_cons]; have := dirs_length f (n - half n) (i - half n); omega
theorem rd_drop (p : List Int) (k : Nat) : rd (p.drop k) 0 = rd p k := by
  unfold rd
  simp [List.getD_eq_getElem?_getD]
def okN (b h : Nat) (r : Value) (k : Nat) : Prop := (k < b ∨ k = b + 3 ∨ h + 2 ≤ k) ∧ some k ≠ r.ownBlock
structure PJ (w0 : World) (b h : Nat) (D : List Bool) (p : List Int) (leaf : Int) (r : Value) (k : Nat) (W : World) : Prop where
  e7 : ∃ A c, W.heap[b]? = some (.cells #[.slice A (p.drop k).length c] 41 (0, 0)) ∧ Kd.C (Kd.int .u64) w0 A (p.drop k).length (p.drop k) ∧ (p.drop k).length ≤ c
  e8 : W.heap[b + 1]? = some (.cells #[.slice none 0 0] 81 (0, 0))
  e9 : W.heap[b + 2]? = some (.cells #[.bool false] 4 (0, 0))
  e10 : ∃ lv, W.heap[b + 4]? = some (.cells #[lv] 81 (0, 0)) ∧ Kd.R k59 59 W b (okN b h r) lv (prsN D p leaf k)
  e11 : W.heap[b + 5]? = some (.cells #[.int .u64 (upN D p leaf k)] 22 (0, 0))
  row : W.ownsRow (h + 2) 4 1 r D.length (D.map Value.bool)
  below : Below b w0 W
  sz : h + 2 ≤ W.heap.size
  kp : k ≤ p.length
structure PX (w0 : World) (b h : Nat) (D : List Bool) (p : List Int) (W : World) : Prop where
  e8 : W.heap[b + 1]? = some (.cells #[.slice none 0 0] 81 (0, 0))
  e9 : W.heap[b + 2]? = some (.cells #[.bool false] 4 (0, 0))
  below : Below b w0 W
  sz : h + 2 ≤ W.heap.size
  kp : p.length < D.length
def pairsF (N I : Nat) (leaf : Int) (p : List Int) : List S59 × Bool :=
  if p.length < (dirs N N I).length then ([], false) else (prsN (dirs N N I) p leaf (dirs N N I).length ++ [⟨(N : Int), upN (dirs N N I) p leaf (dirs N N I).length⟩], decide (p.length = (dirs N N I).length))
theorem sides_in (F : Fence) (n : Nat) (h5 : F.fn 59) (hro : F.round = none) (N I : Int) (w : World) :
    CallsIn F n Try.prog 59 #[.int .i64 N, .int .i64 I] w fun e w' => e = .returned (.func (.func 60) #[] #[.pointer (some ⟨w.heap.size, 0, none⟩), .pointer (some ⟨w.heap.size + 1, 0, none⟩)]) ∧ w' = (w.alloc (.cells #[.int .i64 N] 3)).alloc (.cells #[.int .i64 I] 3) := by
  refine callsIn_of_wp Try.func59 rfl h5 ?_ hro
  simp only [Try.ntmps59, List.size_toArray, List.length_cons, List.length_nil, Nat.reduceAdd, Nat.reduceSub, Array.replicate_succ, Array.replicate_zero, List.push_toArray, List.append_toArray, List.nil_append, List.cons_append]
  gi_wp2
  go_ret
  exact ⟨rfl, rfl⟩
def pw0 (w : World) (A : Option Addr) (n c : Nat) (leaf : Int) (N I : Nat) (nd : Nat) : World :=
  (((((((((w.alloc (Obj.cells #[.slice A n c] 41)).alloc (Obj.cells #[.slice none 0 0] 81)).alloc (Obj.cells #[.bool false] 4)).alloc (Obj.cells #[.int .u64 0, .int .u64 leaf] 59)).alloc (Obj.cells #[.slice (some ⟨w.heap.size + 3, 0, none⟩) 1 1] 81)).drewN nd).alloc (Obj.cells #[.int .u64 (joinV 0 leaf)] 22)).alloc (Obj.cells #[.int .i64 (N : Int)] 3)).alloc (Obj.cells #[.int .i64 (I : Int)] 3))
theorem heap_drewN_ (w : World) (n : Nat) : (w.drewN n).heap = w.heap := rfl
theorem pw0_size (w : World) (A : Option Addr) (n c : Nat) (leaf : Int) (N I : Nat) (nd : Nat) : (pw0 w A n c leaf N I nd).heap.size = w.heap.size + 8 := by simp [pw0, heap_drewN_]
theorem pw0_heap (w : World) (A : Option Addr) (n c : Nat) (leaf : Int) (N I : Nat) (nd : Nat) : (pw0 w A n c leaf N I nd).heap = (((((((w.heap.push (Obj.cells #[.slice A n c] 41)).push (Obj.cells #[.slice none 0 0] 81)).push (Obj.cells #[.bool false] 4)).push (Obj.cells #[.int .u64 0, .int .u64 leaf] 59)).push (Obj.cells #[.slice (some ⟨w.heap.size + 3, 0, none⟩) 1 1] 81)).push (Obj.cells #[.int .u64 (joinV 0 leaf)] 22)).push (Obj.cells #[.int .i64 (N : Int)] 3)).push (Obj.cells #[.int .i64 (I : Int)] 3) := rfl
theorem pw0_at (w : World) (A : Option Addr) (n c : Nat) (leaf : Int) (N I : Nat) (nd : Nat) :
    (pw0 w A n c leaf N I nd).heap[w.heap.size]? = some (Obj.cells #[.slice A n c] 41) ∧ (pw0 w A n c leaf N I nd).heap[w.heap.size + 1]? = some (Obj.cells #[.slice none 0 0] 81) ∧
    (pw0 w A n c leaf N I nd).heap[w.heap.size + 2]? = some (Obj.cells #[.bool false] 4) ∧ (pw0 w A n c leaf N I nd).heap[w.heap.size + 3]? = some (Obj.cells #[.int .u64 0, .int .u64 leaf] 59) ∧
    (pw0 w A n c leaf N I nd).heap[w.heap.size + 4]? = some (Obj.cells #[.slice (some ⟨w.heap.size + 3, 0, none⟩) 1 1] 81) ∧ (pw0 w A n c leaf N I nd).heap[w.heap.size + 5]? = some (Obj.cells #[.int .u64 (joinV 0 leaf)] 22) ∧
    (pw0 w A n c leaf N I nd).heap[w.heap.size + 6]? = some (Obj.cells #[.int .i64 (N : Int)] 3) ∧ (pw0 w A n c leaf N I nd).heap[w.heap.size + 7]? = some (Obj.cells #[.int .i64 (I : Int)] 3) := by
  rw [pw0_heap]
  simp only [Array.getElem?_push, Array.size_push]
  refine ⟨?_, ?_, ?_, ?_, ?_, ?_, ?_, ?_⟩ <;> repeat (first | rfl | rw [if_pos (by omega)] | rw [if_neg (by omega)])
theorem pw0_below (w : World) (A : Option Addr) (n c : Nat) (leaf : Int) (N I : Nat) (nd : Nat) : Below w.heap.size w (pw0 w A n c leaf N I nd) :=
  ((((pw_below_drewN ((((((Below.refl _ w).alloc (Nat.le_refl _) _).alloc (by simp) _).alloc (by simp; omega) _).alloc (by simp; omega) _).alloc (by simp; omega) _) nd).alloc (by simp [heap_drewN_]; omega) _).alloc (by simp [heap_drewN_]; omega) _).alloc (by simp [heap_drewN_]; omega) _)
theorem cell_alloc_ {w : World} {o : Obj} {a : Addr} {u : Value} (h : w.cell? a = some u) : (w.alloc o).cell? a = w.cell? a := ((Below.refl w.heap.size w).alloc (Nat.le_refl _) o).cell (World.block_lt_of_cell? w _ h)
theorem lit59 (W w3 : World) (b : Nat) (ok : Nat → Prop) (leaf : Int) (hg : W.heap[w3.heap.size]? = some (.cells #[.int .u64 0, .int .u64 leaf] 59 (0, 0))) (hb : b ≤ w3.heap.size) (hok : ok w3.heap.size) :
    Kd.R k59 59 W b ok (.slice (some ⟨w3.heap.size, 0, none⟩) 1 1) [⟨0, leaf⟩] := by
  refine ⟨fun k hk => ?_, [.int .u64 0, .int .u64 leaf], own_move (World.ownsRow_lit (base := b) (e := 59) (size := 2) w3 #[.int .u64 0, .int .u64 leaf] 1 hb (by decide) rfl) (fun k hk => ?_), Reps.c2 (k59_mkM _ _ _ ⟨0, leaf⟩) (Reps.none _ _)⟩
  · have : w3.heap.size = k := by simpa [Value.ownBlock] using hk
    exact this ▸ hok
  · have : w3.heap.size = k := by simpa [Value.ownBlock] using hk
    subst this
    exact hg.trans (World.alloc_heap_new w3 _).symm
theorem PJ.first {w : World} {A : Option Addr} {c : Nat} {leaf : Int} {N I nd : Nat} {D : List Bool} {p : List Int} {v : Value} {W : World} (hr : Kd.C (Kd.int .u64) w A p.length p) (hc : p.length ≤ c)
    (hb : Below (w.heap.size + 6) (pw0 w A p.length c leaf N I nd) W) (hs : w.heap.size + 10 ≤ W.heap.size) (ho : W.ownsRow (w.heap.size + 10) 4 1 v D.length (D.map Value.bool)) : PJ w w.heap.size (w.heap.size + 8) D p leaf v 0 W := by
  obtain ⟨p7, p8, p9, p3, p10, p11, pb1, pb2⟩ := pw0_at w A p.length c leaf N I nd
  have hne : ∀ k, k < w.heap.size + 10 → some k ≠ v.ownBlock := fun k h1 h2 => by have := own_base ho k h2.symm; omega
  refine ⟨⟨A, c, (hb.block _ (by omega)).trans p7, hr, hc⟩, (hb.block _ (by omega)).trans p8, (hb.block _ (by omega)).trans p9, ⟨_, (hb.block _ (by omega)).trans p10, ?_⟩, (hb.block _ (by omega)).trans p11, ho, (pw0_below w A p.length c leaf N I nd).trans (hb.mono (by omega)), hs, Nat.zero_le _⟩
  have e : w.heap.size + 3 = (((w.alloc (Obj.cells #[.slice A p.length c] 41)).alloc (Obj.cells #[.slice none 0 0] 81)).alloc (Obj.cells #[.bool false] 4)).heap.size := by simp
  have h3 := (hb.block _ (by omega)).trans p3
  rw [e] at h3 ⊢
  refine lit59 W _ _ _ leaf h3 (by simp; omega) ⟨.inr (.inl (by simp)), hne _ (by simp)⟩
theorem PJ.put {w0 : World} {b : Nat} {D : List Bool} {p : List Int} {leaf : Int} {r : Value} {k : Nat} {W : World} (h : PJ w0 b (b + 8) D p leaf r k W) (o : Obj) : PJ w0 b (b + 8) D p leaf r k (W.putObj (b + 9) o) := by
  have e : ∀ i, i ≠ b + 9 → (W.putObj (b + 9) o).heap[i]? = W.heap[i]? := fun i hi => World.putObj_heap_other hi
  obtain ⟨⟨A, c, h7, h72, h73⟩, h8, h9, ⟨lv, h10, hR⟩, h11, hrow, hbl, hs, hk⟩ := h
  refine ⟨⟨A, c, (e _ (by omega)).trans h7, h72, h73⟩, (e _ (by omega)).trans h8, (e _ (by omega)).trans h9, ⟨lv, (e _ (by omega)).trans h10, Kd.R_step hR fun i hi _ => e i ?_⟩, (e _ (by omega)).trans h11, own_move hrow fun i hi => e i ?_, hbl.grown (grownBy_putObj' W (b + 9) o) (by omega) (fun i hi => by cases hi; omega), by rw [World.putObj_size]; exact hs, hk⟩
  · have := hi.1; omega
  · have := own_base hrow i hi; omega
theorem PJ.next {w0 : World} {b : Nat} {D : List Bool} {p : List Int} {leaf : Int} {r : Value} {k : Nat} {W Wa : World} {lv v1 : Value} {A2 : Option Addr} {c2 : Nat} {up2 : Int} (h7 : ∃ u, W.heap[b]? = some (.cells #[u] 41 (0, 0))) (h8 : W.heap[b + 1]? = some (.cells #[.slice none 0 0] 81 (0, 0)))
    (h9 : W.heap[b + 2]? = some (.cells #[.bool false] 4 (0, 0))) (h10 : W.heap[b + 4]? = some (.cells #[lv] 81 (0, 0))) (h11 : ∃ u, W.heap[b + 5]? = some (.cells #[u] 22 (0, 0)))
    (hrow : W.ownsRow (b + 10) 4 1 r D.length (D.map Value.bool)) (hs : b + 10 ≤ W.heap.size) (hRlv : Kd.R k59 59 W b (okN b (b + 8) r) lv (prsN D p leaf k))
    (hblk : ∀ i, i < W.heap.size → some i ≠ lv.ownBlock → Wa.heap[i]? = W.heap[i]?) (hsz : W.heap.size ≤ Wa.heap.size) (hbl : Below b w0 Wa) (hR1 : Kd.R k59 59 Wa b (okN b (b + 8) r) v1 (prsN D p leaf (k + 1)))
    (hC : Kd.C (Kd.int .u64) w0 A2 (p.drop (k + 1)).length (p.drop (k + 1))) (hc2 : (p.drop (k + 1)).length ≤ c2) (hk : k < p.length) (hup : up2 = upN D p leaf (k + 1)) :
    Keep2 (b + 8) W (((Wa.setCell ⟨b + 4, 0, none⟩ v1).setCell ⟨b + 5, 0, none⟩ (.int .u64 up2)).setCell ⟨b, 0, none⟩ (.slice A2 (p.drop (k + 1)).length c2)) ∧
    PJ w0 b (b + 8) D p leaf r (k + 1) (((Wa.setCell ⟨b + 4, 0, none⟩ v1).setCell ⟨b + 5, 0, none⟩ (.int .u64 up2)).setCell ⟨b, 0, none⟩ (.slice A2 (p.drop (k + 1)).length c2)) := by
  have hne : ∀ i, ¬ (i < b ∨ i = b + 3 ∨ b + 10 ≤ i) → some i ≠ lv.ownBlock := fun i hi he => hi (hRlv.1 i he.symm).1
  obtain ⟨u7, h7⟩ := h7
  obtain ⟨u11, h11⟩ := h11
  have e : ∀ i, i < b + 10 → ¬ (i < b ∨ i = b + 3) → Wa.heap[i]? = W.heap[i]? := fun i h1 h2 => hblk i (by omega) (hne i (by omega))
  have a7 := (e b (by omega) (by omega)).trans h7
  have a8 := (e (b + 1) (by omega) (by omega)).trans h8
  have a9 := (e (b + 2) (by omega) (by omega)).trans h9
  have a10 := (e (b + 4) (by omega) (by omega)).trans h10
  have a11 := (e (b + 5) (by omega) (by omega)).trans h11
  have far : ∀ i, i ≠ b → i ≠ b + 4 → i ≠ b + 5 → (((Wa.setCell ⟨b + 4, 0, none⟩ v1).setCell ⟨b + 5, 0, none⟩ (.int .u64 up2)).setCell ⟨b, 0, none⟩ (.slice A2 (p.drop (k + 1)).length c2)).heap[i]? = Wa.heap[i]? := fun i h1 h2 h3 =>
    (Below.heap_setCell _ ⟨b, 0, none⟩ _ i h1).trans ((Below.heap_setCell _ ⟨b + 5, 0, none⟩ _ i h3).trans (Below.heap_setCell _ ⟨b + 4, 0, none⟩ _ i h2))
  have hrb : ∀ i, r.ownBlock = some i → b + 10 ≤ i := fun i hi => own_base hrow i hi
  refine ⟨⟨(far _ (by omega) (by omega) (by omega)).trans (e _ (by omega) (by omega)), (far _ (by omega) (by omega) (by omega)).trans (e _ (by omega) (by omega))⟩, ⟨A2, c2, ?_, hC, hc2⟩, (far _ (by omega) (by omega) (by omega)).trans a8, (far _ (by omega) (by omega) (by omega)).trans a9, ⟨v1, ?_, Kd.R_step hR1 fun i hi _ => far i ?_ ?_ ?_⟩, ?_, own_move hrow fun i hi => (far i ?_ ?_ ?_).trans (hblk i (own_lt hrow i hi) ?_), ?_, ?_, hk⟩
  · exact blk_set (blk_far (blk_far a7 (p := ⟨b + 4, 0, none⟩) (by simp) _) (p := ⟨b + 5, 0, none⟩) (by simp) _) 0 _
  · exact blk_far (blk_far (blk_set a10 0 _) (p := ⟨b + 5, 0, none⟩) (by simp) _) (p := ⟨b, 0, none⟩) (by simp) _
  · have := hi.1; omega
  · have := hi.1; omega
  · have := hi.1; omega
  · rw [← hup]; exact blk_far (blk_set (blk_far a11 (p := ⟨b + 4, 0, none⟩) (by simp) _) 0 _) (p := ⟨b, 0, none⟩) (by simp) _
  · have := hrb i hi; omega
  · have := hrb i hi; omega
  · have := hrb i hi; omega
  · intro he; exact (hRlv.1 i he.symm).2 hi.symm
  · exact ((hbl.setCell (p := ⟨b + 4, 0, none⟩) (by simp) _).setCell (p := ⟨b + 5, 0, none⟩) (by simp) _).setCell (p := ⟨b, 0, none⟩) (Nat.le_refl _) _
  · simp [World.setCell]; omega
theorem PX.put {w0 : World} {b : Nat} {D : List Bool} {p : List Int} {W : World} (h : PX w0 b (b + 8) D p W) (o : Obj) : PX w0 b (b + 8) D p (W.putObj (b + 9) o) := by
  have e : ∀ i, i ≠ b + 9 → (W.putObj (b + 9) o).heap[i]? = W.heap[i]? := fun i hi => World.putObj_heap_other hi
  obtain ⟨h8, h9, hbl, hs, hk⟩ := h
  exact ⟨(e _ (by omega)).trans h8, (e _ (by omega)).trans h9, hbl.grown (grownBy_putObj' W (b + 9) o) (by omega) (fun i hi => by cases hi; omega), by rw [World.putObj_size]; exact hs, hk⟩
def PairsPost (N I : Nat) (leaf : Int) (p : List Int) (w : World) (e : Ending) (w' : World) : Prop :=
  ∃ v, e = .returned (.tuple #[v, .bool (pairsF N I leaf p).2]) ∧ Kd.R k59 59 w' w.heap.size (fun _ => True) v (pairsF N I leaf p).1 ∧ Below w.heap.size w w'
theorem pairs_out {N I : Nat} {leaf : Int} {p : List Int} {w W : World} {b : Nat} {v : Value} {ok : Bool} {tmps : Array Value} {ok2 : Nat → Prop} {D : Nat} (h8 : W.heap[b + 1]? = some (.cells #[v] 81 (0, 0))) (h9 : W.heap[b + 2]? = some (.cells #[.bool ok] 4 (0, 0))) (hD : W.heap[D]? = some (.deferred (some [])))
    (t8 : tmps.getD 8 undef = .pointer (some ⟨b + 1, 0, none⟩)) (t9 : tmps.getD 9 undef = .pointer (some ⟨b + 2, 0, none⟩)) (hR : Kd.R k59 59 W w.heap.size ok2 v (pairsF N I leaf p).1) (hok : ok = (pairsF N I leaf p).2) (hb : Below w.heap.size w W) (hb2 : w.heap.size ≤ D) :
    bodyPostM Fence.wide 5 Try.prog Try.f55 (PairsPost N I leaf p w) .ret { tmps := tmps, defers := [{ target := .collected D, args := #[] }] } W := by
  have hne : ∀ (i : Nat) (cs : Array Value) (T : TypeId) (fr : Nat × Nat), W.heap[i]? = some (Obj.cells cs T fr) → i ≠ D := fun i cs T fr h he => by subst he; rw [hD] at h; cases h
  have e8 := (World.putObj_heap_other (o := .deferred none) (hne _ _ _ _ h8)).trans h8
  have e9 := (World.putObj_heap_other (o := .deferred none) (hne _ _ _ _ h9)).trans h9
  obtain ⟨inner, ho⟩ := Kd.R_own hR
  obtain ⟨Av, cv, ev⟩ := Kd.R_slice hR
  subst ev
  refine ⟨by simp, .inl ⟨_, _, rfl, run_takeDeferred hD, ?_⟩⟩
  refine ⟨.tuple #[.slice Av (pairsF N I leaf p).1.length cv, .bool ok], ?_, _, by rw [hok], Kd.R_mono (Kd.R_move (Kd.R_bound hR) fun k hk => World.putObj_heap_other ?_) (fun _ _ => trivial), hb.grown (grownBy_putObj' W D _) hb.size (fun i hi => by cases hi; exact hb2)⟩
  · have c8 : (W.putObj D (.deferred none)).cell? ⟨b + 1, 0, none⟩ = some (.slice Av (pairsF N I leaf p).1.length cv) := blk_cell e8 0
    have c9 : (W.putObj D (.deferred none)).cell? ⟨b + 2, 0, none⟩ = some (.bool ok) := blk_cell e9 0
    have t8' : tmps[8]?.getD undef = .pointer (some ⟨b + 1, 0, none⟩) := by rw [← t8]; simp
    have t9' : tmps[9]?.getD undef = .pointer (some ⟨b + 2, 0, none⟩) := by rw [← t9]; simp
    simp [results, Try.f55, t8', t9', c8, c9, go_sem]
  · obtain ⟨q, hq, cells, hc⟩ := hk.2.2.2
    exact hne _ _ _ _ hc
structure PO (N I : Nat) (leaf : Int) (p : List Int) (w W : World) (b : Nat) (v : Value) (ok : Bool) : Prop where
  h8 : W.heap[b + 1]? = some (.cells #[v] 81 (0, 0))
  h9 : W.heap[b + 2]? = some (.cells #[.bool ok] 4 (0, 0))
  hD : W.heap[b + 8]? = some (.deferred (some []))
  hR : ∃ ok2, Kd.R k59 59 W w.heap.size ok2 v (pairsF N I leaf p).1
  hok : ok = (pairsF N I leaf p).2
  hb : Below w.heap.size w W
theorem pairs_after {N I : Nat} {leaf up : Int} {p q : List Int} {w w4 : World} {v v1 : Value} (HR4 : Kd.R k59 59 w4 w.heap.size (okN w.heap.size (w.heap.size + 8) v) v1 (prsN (dirs N N I) p leaf (dirs N N I).length ++ [⟨(N : Int), up⟩])) (HB4 : Below w.heap.size w w4)
    (hq : q = p.drop (dirs N N I).length) (hup : up = upN (dirs N N I) p leaf (dirs N N I).length) (hkp : (dirs N N I).length ≤ p.length) {u8 u9 : Value} (k8 : w4.heap[w.heap.size + 1]? = some (.cells #[u8] 81 (0, 0))) (k9 : w4.heap[w.heap.size + 2]? = some (.cells #[u9] 4 (0, 0)))
    (kD : w4.heap[w.heap.size + 8]? = some (.deferred (some []))) :
    PO N I leaf p w ((w4.setCell ⟨w.heap.size + 1, 0, none⟩ v1).setCell ⟨w.heap.size + 1 + 1, 0, none⟩ (.bool ((q.length : Int) == 0))) w.heap.size v1 ((q.length : Int) == 0) := by
  have far : ∀ i, i ≠ w.heap.size + 1 → i ≠ w.heap.size + 2 → ((w4.setCell ⟨w.heap.size + 1, 0, none⟩ v1).setCell ⟨w.heap.size + 1 + 1, 0, none⟩ (.bool ((q.length : Int) == 0))).heap[i]? = w4.heap[i]? := fun i h1 h2 => (Below.heap_setCell _ ⟨w.heap.size + 2, 0, none⟩ _ i h2).trans (Below.heap_setCell _ ⟨w.heap.size + 1, 0, none⟩ _ i h1)
  refine ⟨blk_far (blk_set k8 0 _) (p := ⟨w.heap.size + 2, 0, none⟩) (by simp) _, blk_set (blk_far k9 (p := ⟨w.heap.size + 1, 0, none⟩) (by simp) _) 0 _, (far _ (by omega) (by omega)).trans kD, ⟨okN w.heap.size (w.heap.size + 8) v, ?_⟩, ?_, (HB4.setCell (p := ⟨w.heap.size + 1, 0, none⟩) (by simp) _).setCell (p := ⟨w.heap.size + 2, 0, none⟩) (by simp) _⟩
  · have e : (pairsF N I leaf p).1 = prsN (dirs N N I) p leaf (dirs N N I).length ++ [⟨(N : Int), up⟩] := by unfold pairsF; rw [if_neg (by omega), hup]
    rw [e]
    exact Kd.R_step HR4 fun k hk _ => far k (by have := hk.1; omega) (by have := hk.1; omega)
  · have e : (pairsF N I leaf p).2 = decide (p.length = (dirs N N I).length) := by unfold pairsF; rw [if_neg (by omega)]
    rw [e, hq, List.length_drop, Bool.eq_iff_iff, beq_iff_eq, decide_eq_true_iff]
    omega
theorem pairs_stop {N I : Nat} {leaf : Int} {p : List Int} {w W : World} (h8 : W.heap[w.heap.size + 1]? = some (.cells #[.slice none 0 0] 81 (0, 0))) (h9 : W.heap[w.heap.size + 2]? = some (.cells #[.bool false] 4 (0, 0))) (hD : W.heap[w.heap.size + 8]? = some (.deferred (some [])))
    (hb : Below w.heap.size w W) (hk : p.length < (dirs N N I).length) : PO N I leaf p w W w.heap.size (.slice none 0 0) false := by
  have e : pairsF N I leaf p = ([], false) := by unfold pairsF; rw [if_pos hk]
  exact ⟨h8, h9, hD, ⟨fun _ => True, by rw [e]; exact Kd.R_nil ..⟩, by rw [e], hb⟩
theorem PX.of {w0 : World} {b : Nat} {D : List Bool} {p : List Int} {W : World} (h8 : W.heap[b + 1]? = some (.cells #[.slice none 0 0] 81 (0, 0))) (h9 : W.heap[b + 2]? = some (.cells #[.bool false] 4 (0, 0))) (hbl : Below b w0 W) (hs : b + 8 + 2 ≤ W.heap.size) (hp : p.length < D.length) :
    Keep2 (b + 8) W ((W.setCell ⟨b + 1, 0, none⟩ (.slice none 0 0)).setCell ⟨b + 2, 0, none⟩ (.bool false)) ∧ PX w0 b (b + 8) D p ((W.setCell ⟨b + 1, 0, none⟩ (.slice none 0 0)).setCell ⟨b + 2, 0, none⟩ (.bool false)) := by
  have far : ∀ i, i ≠ b + 1 → i ≠ b + 2 → ((W.setCell ⟨b + 1, 0, none⟩ (.slice none 0 0)).setCell ⟨b + 2, 0, none⟩ (.bool false)).heap[i]? = W.heap[i]? := fun i h1 h2 => (Below.heap_setCell _ ⟨b + 2, 0, none⟩ _ i h2).trans (Below.heap_setCell _ ⟨b + 1, 0, none⟩ _ i h1)
  refine ⟨⟨far _ (by omega) (by omega), far _ (by omega) (by omega)⟩, blk_far (blk_set h8 0 _) (p := ⟨b + 2, 0, none⟩) (by simp) _, blk_set (blk_far h9 (p := ⟨b + 1, 0, none⟩) (by simp) _) 0 _, (hbl.setCell (p := ⟨b + 1, 0, none⟩) (by simp) _).setCell (p := ⟨b + 2, 0, none⟩) (by simp) _, ?_, hp⟩
  simp [World.setCell]; omega
set_option maxRecDepth 100000 in
set_option maxHeartbeats 4000000 in
theorem pairs_calls (N I : Nat) (leaf : Int) (A : Option Addr) (c : Nat) (p : List Int) (w : World) (hN : N ≤ 4096) (hI : I < N) (hm : p.length ≤ 140737488355328) (hr : Kd.C (Kd.int .u64) w A p.length p) (hc : p.length ≤ c) :
    Calls Try.prog 55 #[.int .i64 (N : Int), .int .i64 (I : Int), .int .u64 leaf, .slice A p.length c] w (PairsPost N I leaf p w) := by
  refine (callsIn_wide (n := 5)).1 ?_
  have h21 : Fence.wide.fn 21 := trivial
  have h59 : Fence.wide.fn 59 := trivial
  refine callsIn_of_wp_marks Try.func55 rfl trivial ?_ rfl
  simp only [Try.ntmps55, List.size_toArray, List.length_cons, List.length_nil, Nat.reduceAdd, Nat.reduceSub, Array.replicate_succ, Array.replicate_zero, List.push_toArray, List.append_toArray, List.nil_append, List.cons_append]
  gi_wp2_with (gi_at_call 21; refine ((callsIn_wide (n := 4)).2 (digest_Join.calls _ _ _ _ (joinV_f _ _))).mono ?_; rintro e w' ⟨rfl, ⟨nd, rfl⟩⟩)
  gi_wp2_with (gi_at_call 59; refine (sides_in _ 4 h59 rfl _ _ _).mono ?_; rintro e w' ⟨rfl, rfl⟩)
  obtain ⟨p7, p8, p9, p3, p10, p11, pb1, pb2⟩ := pw0_at w A p.length c leaf N I nd
  have psz := pw0_size w A p.length c leaf N I nd
  have pbl := pw0_below w A p.length c leaf N I nd
  refine rangeFunc_sides (w := pw0 w A p.length c leaf N I nd) rfl (by omega) trivial N I (w.heap.size + 6) rfl hN hI pb1 pb2 (dirs N N I) rfl rfl (PJ w w.heap.size (w.heap.size + 8) (dirs N N I) p leaf) (PX w w.heap.size (w.heap.size + 8) (dirs N N I) p) ?hJr ?hJ0 ?hJl ?hJxl
    (fun x => { tmps := #[.int .i64 (N : Int), .int .i64 (I : Int), .int .u64 leaf, .slice A p.length c, undef, undef, undef, .pointer (some ⟨w.heap.size, 0, none⟩), .pointer (some ⟨w.heap.size + 1, 0, none⟩), .pointer (some ⟨w.heap.size + 2, 0, none⟩), .pointer (some ⟨w.heap.size + 4, 0, none⟩), .pointer (some ⟨w.heap.size + 5, 0, none⟩), (.bool x), undef, .int .u64 leaf, .agg #[.int .u64 0, .int .u64 leaf], .slice (some ⟨w.heap.size + 3, 0, none⟩) 1 1, .int .u64 leaf, .int .u64 (joinV 0 leaf), .int .i64 (N : Int), .int .i64 (I : Int), .func (.func 60) #[] #[.pointer (some ⟨w.heap.size + 6, 0, none⟩), .pointer (some ⟨w.heap.size + 7, 0, none⟩)], (.bool x), undef, undef, undef, undef, undef, undef, undef, undef, undef, undef, undef, undef, undef, undef, undef, undef, undef, undef, undef, undef, undef, undef, undef, undef, undef, undef, undef, undef, undef, undef, undef, undef, undef, undef, undef], defers := [] }) ?assign ?body ?done ?stop
  case hJr => intro v k W h; rw [psz]; exact h.row
  case hJ0 => intro v W hb _ hs ho; rw [psz] at hs ho; exact PJ.first hr hc hb hs ho
  case hJl => intro v k W o h _; rw [psz]; exact h.put o
  case hJxl => intro W o h _; rw [psz]; exact h.put o
  case assign =>
    intro l x W K hK
    gi_wp2
    exact hK
  case body =>
    clear p7 p8 p9 p3 p10 p11 pb1 pb2 pbl
    rintro l v k W ⟨⟨A', c', h7, hA, hcap⟩, h8, h9, ⟨lv, h10, hR⟩, h11, hrow, hbl, hs, hkp⟩ hk hsz2
    rw [psz] at hsz2 ⊢
    obtain ⟨q, hq⟩ : ∃ q, q = p.drop k := ⟨_, rfl⟩
    obtain ⟨x, hx⟩ : ∃ x, x = (dirs N N I).reverse.getD k false := ⟨_, rfl⟩
    obtain ⟨up, hup⟩ : ∃ up, up = upN (dirs N N I) p leaf k := ⟨_, rfl⟩
    rw [← hq] at h7 hA hcap
    rw [← hx]
    rw [← hup] at h11
    have g7 : W.cell? ⟨w.heap.size, 0, none⟩ = some (.slice A' q.length c') := blk_cell h7 0
    have g8 : W.cell? ⟨w.heap.size + 1, 0, none⟩ = some (.slice none 0 0) := blk_cell h8 0
    have g9 : W.cell? ⟨w.heap.size + 2, 0, none⟩ = some (.bool false) := blk_cell h9 0
    have g10 : W.cell? ⟨w.heap.size + 4, 0, none⟩ = some lv := blk_cell h10 0
    have g11 : W.cell? ⟨w.heap.size + 5, 0, none⟩ = some (.int .u64 up) := blk_cell h11 0
    have f8 : W.frozen? ⟨w.heap.size + 1, 0, none⟩ = false := blk_frozen h8 0
    have f9 : W.frozen? ⟨w.heap.size + 2, 0, none⟩ = false := blk_frozen h9 0
    have f7 : W.frozen? ⟨w.heap.size, 0, none⟩ = false := blk_frozen h7 0
    have f10 : W.frozen? ⟨w.heap.size + 4, 0, none⟩ = false := blk_frozen h10 0
    have f11 : W.frozen? ⟨w.heap.size + 5, 0, none⟩ = false := blk_frozen h11 0
    have H7 := Aside0.mk h7
    have H8 := Aside0.mk h8
    have H9 := Aside0.mk h9
    have H10 := Aside0.mk h10
    have H11 := Aside0.mk h11
    have HR := Aside0.mk hR
    have HW := Aside0.mk hrow
    have HL := Aside0.mk (And.intro hbl (And.intro hs hkp))
    have HA := Aside0.mk (And.intro hA hcap)
    have HQ := Aside0.mk (And.intro hq (And.intro hx hup))
    clear h7 h8 h9 h10 h11 hR hrow hbl hs hkp hA hcap hq hx hup psz
    by_cases hempty : q.length = 0
    · have e : (q.length == 0) = true := beq_iff_eq.2 hempty
      gi_wp2
      exact PX.of H8.out H9.out HL.out.1 HL.out.2.1 (by have h := congrArg List.length HQ.out.1; rw [List.length_drop] at h; omega)
    · have e : (q.length == 0) = false := beq_eq_false_iff_ne.2 hempty
      obtain ⟨ad, rfl, hcell⟩ := Kd.at_int HA.out.1 0 (by omega) (by omega)
      have hc1 : w.cell? ad = some (.int .u64 (rd q 0)) := by rw [← hcell]; rfl
      have hc2 : W.cell? ad = some (.int .u64 (rd q 0)) := (HL.out.1.cell (World.block_lt_of_cell? w _ hc1)).trans hc1
      have hpos : 0 < q.length := by omega
      clear hempty hcell hc1
      cases x with
      | true =>
        gi_wp2
        refine startR_ (n := 3) (m := 7) (S := fun w' => w'.cell? ⟨w.heap.size, 0, none⟩ = some (.slice (some ad) q.length c') ∧ w'.cell? ad = some (.int .u64 (rd q 0)) ∧ w'.cell? ⟨w.heap.size + 5, 0, none⟩ = some (.int .u64 up)) (ds := [6]) #[false, false, false, false, false, false, false] (by kernel_rfl) (by decide +kernel) (by rintro ⟨_, _, h⟩; obtain ⟨_, ⟨h, _⟩ | ⟨h, _⟩⟩ := h <;> cases h) rfl rfl ⟨g7, hc2, g11⟩ (fun hHeld => ?_)
        refine take_ (i := 0) (N := some 26) (v := ?_) (a' := ?_) #[true, false, false, false, false, false, false] rfl rfl (by kernel_rfl) (fun _ _ _ h => h) (Or.inl ⟨by rfl, ?_⟩) hHeld ?_ ?_
        rotate_left
        · rintro w' ⟨s0, s1, s2⟩
          go_simp
          first | with_reducible rfl | done | skip
        rotate_left
        · simp only [Act.put, List.setIfInBounds_toArray, List.set_cons_zero, List.set_cons_succ, i64_w, i32_w]
          rfl
        refine pure_ (i := 1) (N := some 27) (v := ?_) (a' := ?_) #[true, true, false, false, false, false, false] rfl rfl (by kernel_rfl) (fun _ _ _ h => h) (Or.inl ⟨by rfl, ?_⟩) ?_ ?_
        rotate_left
        · intro w'
          go_simp
          first | with_reducible rfl | done | skip
        rotate_left
        · simp only [Act.put, List.setIfInBounds_toArray, List.set_cons_zero, List.set_cons_succ, i64_w, i32_w]
          rfl
        refine take_ (i := 2) (N := some 28) (v := ?_) (a' := ?_) #[true, true, true, false, false, false, false] rfl rfl (by kernel_rfl) (fun _ _ _ h => h) (Or.inl ⟨by rfl, ?_⟩) hHeld ?_ ?_
        rotate_left
        · rintro w' ⟨s0, s1, s2⟩
          go_simp
          first | with_reducible rfl | done | skip
        rotate_left
        · simp only [Act.put, List.setIfInBounds_toArray, List.set_cons_zero, List.set_cons_succ, i64_w, i32_w]
          rfl
        refine take_ (i := 3) (N := some 29) (v := ?_) (a' := ?_) #[true, true, true, true, false, false, false] rfl rfl (by kernel_rfl) (fun _ _ _ h => h) (Or.inl ⟨by rfl, ?_⟩) hHeld ?_ ?_
        rotate_left
        · rintro w' ⟨s0, s1, s2⟩
          go_simp
          first | with_reducible rfl | done | skip
        rotate_left
        · simp only [Act.put, List.setIfInBounds_toArray, List.set_cons_zero, List.set_cons_succ, i64_w, i32_w]
          rfl
        refine pure_ (i := 4) (N := some 30) (v := ?_) (a' := ?_) #[true, true, true, true, true, false, false] rfl rfl (by kernel_rfl) (fun _ _ _ h => h) (Or.inl ⟨by rfl, ?_⟩) ?_ ?_
        rotate_left
        · intro w'
          go_simp
          first | with_reducible rfl | done | skip
        rotate_left
        · simp only [Act.put, List.setIfInBounds_toArray, List.set_cons_zero, List.set_cons_succ, i64_w, i32_w]
          rfl
        refine one_ (i := 5) (N := some 13) #[true, true, true, true, true, true, false] rfl rfl (by kernel_rfl) (by decide) (fun K hK => ?_)
        refine box_step (N := 13) (by rfl) rfl (cs := #[.int .u64 0, .int .u64 0]) (t := 59) (by first | (go_simp; done) | (go_simp; rfl)) ?_
        intro g13 hg13 w1 hbox hb1
        have HG := Aside0.mk (show g13 = W.heap.size from hg13)
        clear hg13
        replace hb1 : Below W.heap.size W w1 := ⟨hb1.os, hb1.tape, hb1.output, hb1.size, hb1.block⟩
        refine hK.out _ _ ⟨(hb1.cell (p := ⟨w.heap.size, 0, none⟩) (by show w.heap.size < _; have := HL.out.2.1; omega)).trans g7, (hb1.cell (World.block_lt_of_cell? W _ hc2)).trans hc2, (hb1.cell (p := ⟨w.heap.size + 5, 0, none⟩) (by show w.heap.size + 5 < _; have := HL.out.2.1; omega)).trans g11⟩ (fun hHeld => ?_)
        clear hK K
        refine norm_ (a' := ?_) ?_ ?_
        rotate_left
        · show Act.put _ (some 13) _ = _
          simp only [Act.put, List.setIfInBounds_toArray, List.set_cons_zero, List.set_cons_succ, i64_w, i32_w]
          rfl
        refine last_ (i := 6) (N := none) #[true, true, true, true, true, true, true] rfl rfl (by kernel_rfl) (by decide) (fun K hK => ?_)
        have z0 : w1.cell? ⟨g13, 0, none⟩ = some (.int .u64 0) := blk_cell hbox 0
        have z1 : w1.cell? ⟨g13, 1, none⟩ = some (.int .u64 0) := blk_cell hbox 1
        have y0 : w1.frozen? ⟨g13, 0, none⟩ = false := blk_frozen hbox 0
        have y1 : w1.frozen? ⟨g13, 1, none⟩ = false := blk_frozen hbox 1
        rw [if_pos (by rfl)]
        go_simp
        refine hK.out _ _ ?_
        clear hK K
        refine done_ (by kernel_rfl) ?_
        have hB2 : ((w1.setCell ⟨g13, 0, none⟩ (.int .u64 (rd q 0))).setCell ⟨g13, 1, none⟩ (.int .u64 up)).heap[g13]? = some (.cells #[.int .u64 (rd q 0), .int .u64 up] 59 (0, 0)) := blk_set (blk_set hbox 0 _) 1 _
        have hb2 : Below W.heap.size W ((w1.setCell ⟨g13, 0, none⟩ (.int .u64 (rd q 0))).setCell ⟨g13, 1, none⟩ (.int .u64 up)) := (hb1.setCell (p := ⟨g13, 0, none⟩) (by rw [HG.out]; exact Nat.le_refl _) _).setCell (p := ⟨g13, 1, none⟩) (by rw [HG.out]; exact Nat.le_refl _) _
        clear z0 z1 y0 y1 hbox hb1 hHeld
        generalize ((w1.setCell ⟨g13, 0, none⟩ (.int .u64 (rd q 0))).setCell ⟨g13, 1, none⟩ (.int .u64 up)) = w2 at hB2 hb2 ⊢
        have m7 : w2.cell? ⟨w.heap.size, 0, none⟩ = some (.slice (some ad) q.length c') := (hb2.cell (p := ⟨w.heap.size, 0, none⟩) (by show w.heap.size < _; have := HL.out.2.1; omega)).trans g7
        have m10 : w2.cell? ⟨w.heap.size + 4, 0, none⟩ = some lv := (hb2.cell (p := ⟨w.heap.size + 4, 0, none⟩) (by show w.heap.size + 4 < _; have := HL.out.2.1; omega)).trans g10
        have m11 : w2.cell? ⟨w.heap.size + 5, 0, none⟩ = some (.int .u64 up) := (hb2.cell (p := ⟨w.heap.size + 5, 0, none⟩) (by show w.heap.size + 5 < _; have := HL.out.2.1; omega)).trans g11
        have mad : w2.cell? ad = some (.int .u64 (rd q 0)) := (hb2.cell (World.block_lt_of_cell? W _ hc2)).trans hc2
        gi_wp2
        refine startR_ (n := 3) (m := 6) (S := fun w' => w'.cell? ⟨w.heap.size, 0, none⟩ = some (.slice (some ad) q.length c') ∧ w'.cell? ad = some (.int .u64 (rd q 0)) ∧ w'.cell? ⟨w.heap.size + 5, 0, none⟩ = some (.int .u64 up)) (ds := [5]) #[false, false, false, false, false, false] (by kernel_rfl) (by decide +kernel) (by rintro ⟨_, _, h⟩; obtain ⟨_, ⟨h, _⟩ | ⟨h, _⟩⟩ := h <;> cases h) rfl rfl ⟨m7, mad, m11⟩ (fun hHeld => ?_)
        have hB2d : w2.drew.heap[g13]? = some (.cells #[.int .u64 (rd q 0), .int .u64 up] 59 (0, 0)) := hB2
        have hb2d : Below W.heap.size W w2.drew := below_drew1 hb2
        clear hB2 hb2 m7 m10 m11 mad
        generalize w2.drew = w2d at hB2d hb2d hHeld ⊢
        refine take_ (i := 0) (N := some 32) (v := ?_) (a' := ?_) #[true, false, false, false, false, false] rfl rfl (by kernel_rfl) (fun _ _ _ h => h) (Or.inl ⟨by rfl, ?_⟩) hHeld ?_ ?_
        rotate_left
        · rintro w' ⟨s0, s1, s2⟩
          go_simp
          first | with_reducible rfl | done | skip
        rotate_left
        · simp only [Act.put, List.setIfInBounds_toArray, List.set_cons_zero, List.set_cons_succ, i64_w, i32_w]
          rfl
        refine take_ (i := 1) (N := some 33) (v := ?_) (a' := ?_) #[true, true, false, false, false, false] rfl rfl (by kernel_rfl) (fun _ _ _ h => h) (Or.inl ⟨by rfl, ?_⟩) hHeld ?_ ?_
        rotate_left
        · rintro w' ⟨s0, s1, s2⟩
          go_simp
          first | with_reducible rfl | done | skip
        rotate_left
        · simp only [Act.put, List.setIfInBounds_toArray, List.set_cons_zero, List.set_cons_succ, i64_w, i32_w]
          rfl
        refine pure_ (i := 2) (N := some 34) (v := ?_) (a' := ?_) #[true, true, true, false, false, false] rfl rfl (by kernel_rfl) (fun _ _ _ h => h) (Or.inl ⟨by rfl, ?_⟩) ?_ ?_
        rotate_left
        · intro w'
          go_simp
          first | with_reducible rfl | done | skip
        rotate_left
        · simp only [Act.put, List.setIfInBounds_toArray, List.set_cons_zero, List.set_cons_succ, i64_w, i32_w]
          rfl
        refine take_ (i := 3) (N := some 35) (v := ?_) (a' := ?_) #[true, true, true, true, false, false] rfl rfl (by kernel_rfl) (fun _ _ _ h => h) (Or.inl ⟨by rfl, ?_⟩) hHeld ?_ ?_
        rotate_left
        · rintro w' ⟨s0, s1, s2⟩
          go_simp
          first | with_reducible rfl | done | skip
        rotate_left
        · simp only [Act.put, List.setIfInBounds_toArray, List.set_cons_zero, List.set_cons_succ, i64_w, i32_w]
          rfl
        refine pure_ (i := 4) (N := some 36) (v := ?_) (a' := ?_) #[true, true, true, true, true, false] rfl rfl (by kernel_rfl) (fun _ _ _ h => h) (Or.inl ⟨by rfl, ?_⟩) ?_ ?_
        rotate_left
        · intro w'
          go_simp
          first | with_reducible rfl | done | skip
        rotate_left
        · simp only [Act.put, List.setIfInBounds_toArray, List.set_cons_zero, List.set_cons_succ, i64_w, i32_w]
          rfl
        refine last_ (i := 5) (N := none) #[true, true, true, true, true, true] rfl rfl (by kernel_rfl) (by decide) (fun K hK => ?_)
        have z0 : w2d.cell? ⟨g13, 0, none⟩ = some (.int .u64 (rd q 0)) := blk_cell hB2d 0
        have z1 : w2d.cell? ⟨g13, 1, none⟩ = some (.int .u64 up) := blk_cell hB2d 1
        have y0 : w2d.frozen? ⟨g13, 0, none⟩ = false := blk_frozen hB2d 0
        have y1 : w2d.frozen? ⟨g13, 1, none⟩ = false := blk_frozen hB2d 1
        rw [if_pos (by rfl)]
        go_simp
        refine hK.out _ _ ?_
        clear hK K
        refine done_ (by kernel_rfl) ?_
        have hB3 : ((w2d.setCell ⟨g13, 0, none⟩ (.int .u64 up)).setCell ⟨g13, 1, none⟩ (.int .u64 (rd q 0))).heap[g13]? = some (.cells #[.int .u64 up, .int .u64 (rd q 0)] 59 (0, 0)) := blk_set (blk_set hB2d 0 _) 1 _
        have hb3 : Below W.heap.size W ((w2d.setCell ⟨g13, 0, none⟩ (.int .u64 up)).setCell ⟨g13, 1, none⟩ (.int .u64 (rd q 0))) := (hb2d.setCell (p := ⟨g13, 0, none⟩) (by rw [HG.out]; exact Nat.le_refl _) _).setCell (p := ⟨g13, 1, none⟩) (by rw [HG.out]; exact Nat.le_refl _) _
        clear z0 z1 y0 y1 hHeld hB2d hb2d
        generalize ((w2d.setCell ⟨g13, 0, none⟩ (.int .u64 up)).setCell ⟨g13, 1, none⟩ (.int .u64 (rd q 0))) = w3 at hB3 hb3 ⊢
        have m7 : w3.cell? ⟨w.heap.size, 0, none⟩ = some (.slice (some ad) q.length c') := (hb3.cell (p := ⟨w.heap.size, 0, none⟩) (by show w.heap.size < _; have := HL.out.2.1; omega)).trans g7
        have m10 : w3.cell? ⟨w.heap.size + 4, 0, none⟩ = some lv := (hb3.cell (p := ⟨w.heap.size + 4, 0, none⟩) (by show w.heap.size + 4 < _; have := HL.out.2.1; omega)).trans g10
        have m11 : w3.cell? ⟨w.heap.size + 5, 0, none⟩ = some (.int .u64 up) := (hb3.cell (p := ⟨w.heap.size + 5, 0, none⟩) (by show w.heap.size + 5 < _; have := HL.out.2.1; omega)).trans g11
        have mad : w3.cell? ad = some (.int .u64 (rd q 0)) := (hb3.cell (World.block_lt_of_cell? W _ hc2)).trans hc2
        have z0 : w3.cell? ⟨g13, 0, none⟩ = some (.int .u64 up) := blk_cell hB3 0
        have z1 : w3.cell? ⟨g13, 1, none⟩ = some (.int .u64 (rd q 0)) := blk_cell hB3 1
        obtain ⟨i0, hi0, _, hsz0, _⟩ := info_parts info22h
        obtain ⟨A2, hcut1, hcut2, hcut3⟩ := print_cut_int (P := Try.prog) (k := .u64) 41 22 Try.underlying41 hi0 hsz0 (some ad) c' q 1 (by omega) (by omega) HA.out.2
        have HC := Aside0.mk (And.intro hcut2 hcut3)
        clear hcut2 hcut3 hi0 hsz0
        gi_wp2
        refine startR_ (n := 3) (m := 14) (S := fun w' => w'.cell? ⟨g13, 0, none⟩ = some (.int .u64 up) ∧ w'.cell? ⟨g13, 1, none⟩ = some (.int .u64 (rd q 0)) ∧ w'.cell? ⟨w.heap.size, 0, none⟩ = some (.slice (some ad) q.length c')) (ds := [13]) #[false, false, false, false, false, false, false, false, false, false, false, false, false, false] (by kernel_rfl) (by decide +kernel) (by rintro ⟨_, _, h⟩; obtain ⟨_, ⟨h, _⟩ | ⟨h, _⟩⟩ := h <;> cases h) rfl rfl ⟨z0, z1, m7⟩ (fun hHeld => ?_)
        have hBd : w3.drew.heap[g13]? = some (.cells #[.int .u64 up, .int .u64 (rd q 0)] 59 (0, 0)) := hB3
        have hbd : Below W.heap.size W w3.drew := below_drew1 hb3
        have m10d : w3.drew.cell? ⟨w.heap.size + 4, 0, none⟩ = some lv := m10
        clear hB3 hb3 m7 m10 m11 mad z0 z1
        generalize w3.drew = wd at hBd hbd m10d hHeld ⊢
        refine take_ (i := 1) (N := some 38) (v := ?_) (a' := ?_) #[false, true, false, false, false, false, false, false, false, false, false, false, false, false] rfl rfl (by kernel_rfl) (fun _ _ _ h => h) (Or.inl ⟨by rfl, ?_⟩) hHeld ?_ ?_
        rotate_left
        · rintro w' ⟨s0, s1, s2⟩
          go_simp
          first | with_reducible rfl | done | skip
        rotate_left
        · simp only [Act.put, List.setIfInBounds_toArray, List.set_cons_zero, List.set_cons_succ, i64_w, i32_w]
          rfl
        refine pure_ (i := 4) (N := some 41) (v := ?_) (a' := ?_) #[false, true, false, false, true, false, false, false, false, false, false, false, false, false] rfl rfl (by kernel_rfl) (fun _ _ _ h => h) (Or.inl ⟨by rfl, ?_⟩) ?_ ?_
        rotate_left
        · intro w'
          go_simp
          first | with_reducible rfl | done | skip
        rotate_left
        · simp only [Act.put, List.setIfInBounds_toArray, List.set_cons_zero, List.set_cons_succ, i64_w, i32_w]
          rfl
        refine take_ (i := 5) (N := some 42) (v := ?_) (a' := ?_) #[false, true, false, false, true, true, false, false, false, false, false, false, false, false] rfl rfl (by kernel_rfl) (fun _ _ _ h => h) (Or.inl ⟨by rfl, ?_⟩) hHeld ?_ ?_
        rotate_left
        · rintro w' ⟨s0, s1, s2⟩
          go_simp
          first | with_reducible rfl | done | skip
        rotate_left
        · simp only [Act.put, List.setIfInBounds_toArray, List.set_cons_zero, List.set_cons_succ, i64_w, i32_w]
          rfl
        refine pure_ (i := 6) (N := some 43) (v := ?_) (a' := ?_) #[false, true, false, false, true, true, true, false, false, false, false, false, false, false] rfl rfl (by kernel_rfl) (fun _ _ _ h => h) (Or.inl ⟨by rfl, ?_⟩) ?_ ?_
        rotate_left
        · intro w'
          go_simp
          first | with_reducible rfl | done | skip
        rotate_left
        · simp only [Act.put, List.setIfInBounds_toArray, List.set_cons_zero, List.set_cons_succ, i64_w, i32_w]
          rfl
        refine take_ (i := 7) (N := some 44) (v := ?_) (a' := ?_) #[false, true, false, false, true, true, true, true, false, false, false, false, false, false] rfl rfl (by kernel_rfl) (fun _ _ _ h => h) (Or.inl ⟨by rfl, ?_⟩) hHeld ?_ ?_
        rotate_left
        · rintro w' ⟨s0, s1, s2⟩
          go_simp
          first | with_reducible rfl | done | skip
        rotate_left
        · simp only [Act.put, List.setIfInBounds_toArray, List.set_cons_zero, List.set_cons_succ, i64_w, i32_w]
          rfl
        refine take_ (i := 9) (N := some 46) (v := ?_) (a' := ?_) #[false, true, false, false, true, true, true, true, false, true, false, false, false, false] rfl rfl (by kernel_rfl) (fun _ _ _ h => h) (Or.inl ⟨by rfl, ?_⟩) hHeld ?_ ?_
        rotate_left
        · rintro w' ⟨s0, s1, s2⟩
          go_simp
          first | with_reducible rfl | done | skip
        rotate_left
        · simp only [Act.put, List.setIfInBounds_toArray, List.set_cons_zero, List.set_cons_succ, i64_w, i32_w]
          rfl
        refine pure_ (i := 10) (N := some 47) (v := ?_) (a' := ?_) #[false, true, false, false, true, true, true, true, false, true, true, false, false, false] rfl rfl (by kernel_rfl) (fun _ _ _ h => h) (Or.inl ⟨by rfl, ?_⟩) ?_ ?_
        rotate_left
        · intro w'
          go_simp
          first | with_reducible rfl | done | skip
        rotate_left
        · simp only [Act.put, List.setIfInBounds_toArray, List.set_cons_zero, List.set_cons_succ, i64_w, i32_w]
          rfl
        refine join_ (σ := Unit) 5 #[true, true, true, false, true, true, true, true, false, true, true, false, false, false] (fun _ => [(37, lv), (39, (.slice (some ⟨wd.heap.size, 0, none⟩) 1 1))]) (fun _ w' => w' = wd.alloc (.cells #[.int .u64 up, .int .u64 (rd q 0)] 59)) ?_ (fun hJ => ?_)
        rotate_left
        · refine two_ (i := 0) (j := 2) (Ni := some 37) (Nj := some 39) #[true, true, false, false, true, true, true, true, false, true, true, false, false, false] #[false, true, true, false, true, true, true, true, false, true, true, false, false, false] rfl rfl rfl rfl (by kernel_rfl) (by decide) (by decide) (fun K hK => ?_) (fun K hK => ?_)
          · refine event_step (v := lv) (w1 := wd) (by rfl) (by first | (go_simp; done) | (go_simp; rfl)) ?_
            refine hK.out _ _ hHeld (fun _ => ?_)
            clear hK K
            refine one_ (i := 2) (N := some 39) #[true, true, true, false, true, true, true, true, false, true, true, false, false, false] rfl rfl (by kernel_rfl) (by decide) (fun K hK => ?_)
            refine event_step (v := (.slice (some ⟨wd.heap.size, 0, none⟩) 1 1)) (w1 := wd.alloc (.cells #[.int .u64 up, .int .u64 (rd q 0)] 59)) (by rfl) (by first | (go_simp; done) | (go_simp; rfl)) ?_
            refine hK.out _ _ ⟨(cell_alloc_ hHeld.1).trans hHeld.1, (cell_alloc_ hHeld.2.1).trans hHeld.2.1, (cell_alloc_ hHeld.2.2).trans hHeld.2.2⟩ (fun hHeld2 => ?_)
            clear hK K
            exact hJ () _ rfl
          · refine event_step (v := (.slice (some ⟨wd.heap.size, 0, none⟩) 1 1)) (w1 := wd.alloc (.cells #[.int .u64 up, .int .u64 (rd q 0)] 59)) (by rfl) (by first | (go_simp; done) | (go_simp; rfl)) ?_
            refine hK.out _ _ ⟨(cell_alloc_ hHeld.1).trans hHeld.1, (cell_alloc_ hHeld.2.1).trans hHeld.2.1, (cell_alloc_ hHeld.2.2).trans hHeld.2.2⟩ (fun hHeld2 => ?_)
            clear hK K
            have m10a := (cell_alloc_ (o := .cells #[.int .u64 up, .int .u64 (rd q 0)] 59) m10d).trans m10d
            refine one_ (i := 0) (N := some 37) #[true, true, true, false, true, true, true, true, false, true, true, false, false, false] rfl rfl (by kernel_rfl) (by decide) (fun K hK => ?_)
            refine event_step (v := lv) (w1 := wd.alloc (.cells #[.int .u64 up, .int .u64 (rd q 0)] 59)) (by rfl) (by first | (go_simp; done) | (go_simp; rfl)) ?_
            refine hK.out _ _ hHeld2 (fun _ => ?_)
            clear hK K
            exact norm_ (by show Act.put (Act.put _ (some 39) _) (some 37) _ = _; simp only [putAll, Act.put, List.setIfInBounds_toArray, List.set_cons_zero, List.set_cons_succ]) (hJ () _ rfl)
        rintro ⟨⟩ _ rfl
        refine norm_ (a' := ?_) ?_ ?_
        rotate_left
        · simp only [putAll, Act.put, List.setIfInBounds_toArray, List.set_cons_zero, List.set_cons_succ, i64_w, i32_w]
          rfl
        have hDl : k + 1 < 4097 := by have := dirs_length N N I; omega
        have hsz8 : w.heap.size + 10 ≤ wd.heap.size := by have := HL.out.2.1; have := hbd.size; omega
        have hvb : ∀ i, v.ownBlock = some i → i < W.heap.size := fun i hi => own_lt HW.out i hi
        have hlb : ∀ i, lv.ownBlock = some i → i < W.heap.size ∧ okN w.heap.size (w.heap.size + 8) v i := fun i hi => ⟨((Kd.R_bound HR.out).1 i hi).2.2.1, HR.out.1 i hi⟩
        refine one_ (i := 3) (N := some 40) #[true, true, true, true, true, true, true, true, false, true, true, false, false, false] rfl rfl (by kernel_rfl) (by decide) (fun K hK => ?_)
        refine Kd.R_append_step k59 (w0 := w) w.heap.size (by rfl) (.tmp 37) (.tmp 39) 81 59 (.agg #[(.int .u64 0), (.int .u64 0)]) 16 rfl Try.underlying81 info59p rfl (by decide) (by omega) lv (prsN (dirs N N I) p leaf k) ⟨up, (rd q 0)⟩ [.int .u64 up, .int .u64 (rd q 0)] (okN w.heap.size (w.heap.size + 8) v) (fun _ => False) rfl rfl (k59_mkM _ _ _ _) (fun _ h => h.elim) (fun i hi => ⟨.inr (.inr (by omega)), fun he => by have := hvb i he.symm; have := hbd.size; omega⟩) (Kd.R_below HR.out hbd) (HL.out.1.trans (hbd.mono (by have := HL.out.2.1; omega))) (by omega) (by rw [prsN_length]; omega) ?_
        intro v1 w4 HR4 HB4 hgrow _
        obtain ⟨Av, cv, ev⟩ := Kd.R_slice HR4
        obtain ⟨nv, hnv⟩ : ∃ n, n = (prsN (dirs N N I) p leaf k ++ [(⟨up, (rd q 0)⟩ : S59)]).length := ⟨_, rfl⟩
        rw [← hnv] at ev
        subst ev
        clear hnv
        have k13 : w4.heap[g13]? = some (.cells #[.int .u64 up, .int .u64 (rd q 0)] 59 (0, 0)) := (hgrow.block g13 (blk_lt hBd) (fun he => by have := (hlb _ he.symm).1; have := HG.out; omega)).trans hBd
        have kold : ∀ i, i < W.heap.size → some i ≠ lv.ownBlock → w4.heap[i]? = W.heap[i]? := fun i h1 h2 => (hgrow.block i (by have := hbd.size; omega) h2).trans (hbd.block i h1)
        have kne : ∀ i, i < w.heap.size + 10 → ¬ (i < w.heap.size ∨ i = w.heap.size + 3) → some i ≠ lv.ownBlock := fun i h1 h2 he => by have := (hlb i he.symm).2.1; omega
        have hWs := HL.out.2.1
        have k7 := (kold w.heap.size (by omega) (kne _ (by omega) (by omega))).trans H7.out
        have k10 := (kold (w.heap.size + 4) (by omega) (kne _ (by omega) (by omega))).trans H10.out
        have k11 := (kold (w.heap.size + 5) (by omega) (kne _ (by omega) (by omega))).trans H11.out
        refine hK.out _ _ ⟨blk_cell k13 0, blk_cell k13 1, blk_cell k7 0⟩ (fun hHeld2 => ?_)
        clear hK K
        refine norm_ (a' := ?_) ?_ ?_
        rotate_left
        · show Act.put _ (some 40) _ = _
          simp only [Act.put, List.setIfInBounds_toArray, List.set_cons_zero, List.set_cons_succ, i64_w, i32_w]
          rfl
        refine one_ (i := 8) (N := some 45) #[true, true, true, true, true, true, true, true, true, true, true, false, false, false] rfl rfl (by kernel_rfl) (by decide) (fun K hK => ?_)
        refine goes_ Try.func21 (by kernel_rfl) rfl #[.int .u64 up, .int .u64 (rd q 0)] (by rfl) rfl rfl (by (try simp only [List.map_toArray, List.map_cons, List.map_nil]); first | done | rfl) ?_
        with_reducible refine (digest_Join.calls _ _ _ _ (joinV_f _ _)).mono ?_
        rintro e w' ⟨rfl, ⟨nd2, rfl⟩⟩
        refine ⟨_, rfl, ?_⟩
        have k13d : (w4.drewN nd2).heap[g13]? = some (.cells #[.int .u64 up, .int .u64 (rd q 0)] 59 (0, 0)) := k13
        have k7d : (w4.drewN nd2).heap[w.heap.size]? = some (.cells #[.slice (some ad) q.length c'] 41 (0, 0)) := k7
        have k10d : (w4.drewN nd2).heap[w.heap.size + 4]? = some (.cells #[lv] 81 (0, 0)) := k10
        have k11d : (w4.drewN nd2).heap[w.heap.size + 5]? = some (.cells #[.int .u64 up] 22 (0, 0)) := k11
        refine hK.out _ _ ⟨blk_cell k13d 0, blk_cell k13d 1, blk_cell k7d 0⟩ (fun hHeld3 => ?_)
        clear hK K
        have hrd : rd q 0 = rd p k := by rw [HQ.out.1]; exact rd_drop p k
        have hpr : prN (dirs N N I) p leaf k = ⟨up, (rd q 0)⟩ := by unfold prN; rw [← HQ.out.2.1, ← HQ.out.2.2, ← hrd]; rfl
        have hd : q.drop 1 = p.drop (k + 1) := by rw [HQ.out.1, List.drop_drop]
        have HF := Aside0.mk (PJ.next (w0 := w) (D := dirs N N I) (p := p) (leaf := leaf) (k := k) (Wa := w4.drewN nd2)  (A2 := A2) (c2 := c' - 1) (up2 := joinV up (rd q 0)) ⟨_, H7.out⟩ H8.out H9.out H10.out ⟨_, H11.out⟩ HW.out hWs HR.out kold (Nat.le_trans hbd.size hgrow.size) (pw_below_drewN HB4 nd2) (by rw [prsN_succ, hpr]; exact Kd.R_drewN HR4 nd2) (by rw [← hd]; exact Kd.C_of_reads (h1 := fun _ => rfl) (HC.out.1 w (Kd.reads_of_C HA.out.1))) (by rw [← hd, List.length_drop]; have := HA.out.2; omega) (by have h := congrArg List.length HQ.out.1; rw [List.length_drop] at h; omega) (by simp only [upN]; rw [← HQ.out.2.1, ← HQ.out.2.2, ← hrd]; rfl))
        rw [← hd] at HF
        clear hrd hpr hd k13 k7 k10 k11 kold kne hgrow HB4 HR4 hHeld2 hlb hvb m10d
        generalize w4.drewN nd2 = w5 at k13d k7d k10d k11d hHeld3 HF ⊢
        refine norm_ (a' := ?_) ?_ ?_
        rotate_left
        · show Act.put _ (some 45) _ = _
          simp only [Act.put, List.setIfInBounds_toArray, List.set_cons_zero, List.set_cons_succ, i64_w, i32_w]
          rfl
        have x0 := blk_cell k10d 0
        have x1 := blk_frozen k10d 0
        refine one_ (i := 11) (N := none) #[true, true, true, true, true, true, true, true, true, true, true, true, false, false] rfl rfl (by kernel_rfl) (by decide) (fun K hK => ?_)
        rw [if_pos (by rfl)]
        go_simp
        clear x0 x1
        replace k13d := blk_far k13d (p := ⟨w.heap.size + 4, 0, none⟩) (by simp; have := HG.out; omega) (.slice Av nv cv)
        replace k7d := blk_far k7d (p := ⟨w.heap.size + 4, 0, none⟩) (by simp) (.slice Av nv cv)
        replace k11d := blk_far k11d (p := ⟨w.heap.size + 4, 0, none⟩) (by simp) (.slice Av nv cv)
        refine hK.out _ _ ⟨blk_cell k13d 0, blk_cell k13d 1, blk_cell k7d 0⟩ (fun hHeld4 => ?_)
        clear hK K
        have x0 := blk_cell k11d 0
        have x1 := blk_frozen k11d 0
        refine one_ (i := 12) (N := none) #[true, true, true, true, true, true, true, true, true, true, true, true, true, false] rfl rfl (by kernel_rfl) (by decide) (fun K hK => ?_)
        rw [if_pos (by rfl)]
        go_simp
        clear x0 x1
        replace k13d := blk_far k13d (p := ⟨w.heap.size + 5, 0, none⟩) (by simp; have := HG.out; omega) (.int .u64 (joinV up (rd q 0)))
        replace k7d := blk_far k7d (p := ⟨w.heap.size + 5, 0, none⟩) (by simp) (.int .u64 (joinV up (rd q 0)))
        refine hK.out _ _ ⟨blk_cell k13d 0, blk_cell k13d 1, blk_cell k7d 0⟩ (fun hHeld4 => ?_)
        clear hK K
        have x0 := blk_cell k7d 0
        have x1 := blk_frozen k7d 0
        refine last_ (i := 13) (N := none) #[true, true, true, true, true, true, true, true, true, true, true, true, true, true] rfl rfl (by kernel_rfl) (by decide) (fun K hK => ?_)
        rw [if_pos (by rfl)]
        go_simp
        refine hK.out _ _ ?_
        clear hK K
        refine done_ (by kernel_rfl) ?_
        gi_wp2
        have h := HF.out
        rw [List.length_drop] at h
        exact h
      | false =>
        gi_wp2
        refine startR_ (n := 3) (m := 7) (S := fun w' => w'.cell? ⟨w.heap.size, 0, none⟩ = some (.slice (some ad) q.length c') ∧ w'.cell? ad = some (.int .u64 (rd q 0)) ∧ w'.cell? ⟨w.heap.size + 5, 0, none⟩ = some (.int .u64 up)) (ds := [6]) #[false, false, false, false, false, false, false] (by kernel_rfl) (by decide +kernel) (by rintro ⟨_, _, h⟩; obtain ⟨_, ⟨h, _⟩ | ⟨h, _⟩⟩ := h <;> cases h) rfl rfl ⟨g7, hc2, g11⟩ (fun hHeld => ?_)
        refine take_ (i := 0) (N := some 26) (v := ?_) (a' := ?_) #[true, false, false, false, false, false, false] rfl rfl (by kernel_rfl) (fun _ _ _ h => h) (Or.inl ⟨by rfl, ?_⟩) hHeld ?_ ?_
        rotate_left
        · rintro w' ⟨s0, s1, s2⟩
          go_simp
          first | with_reducible rfl | done | skip
        rotate_left
        · simp only [Act.put, List.setIfInBounds_toArray, List.set_cons_zero, List.set_cons_succ, i64_w, i32_w]
          rfl
        refine pure_ (i := 1) (N := some 27) (v := ?_) (a' := ?_) #[true, true, false, false, false, false, false] rfl rfl (by kernel_rfl) (fun _ _ _ h => h) (Or.inl ⟨by rfl, ?_⟩) ?_ ?_
        rotate_left
        · intro w'
          go_simp
          first | with_reducible rfl | done | skip
        rotate_left
        · simp only [Act.put, List.setIfInBounds_toArray, List.set_cons_zero, List.set_cons_succ, i64_w, i32_w]
          rfl
        refine take_ (i := 2) (N := some 28) (v := ?_) (a' := ?_) #[true, true, true, false, false, false, false] rfl rfl (by kernel_rfl) (fun _ _ _ h => h) (Or.inl ⟨by rfl, ?_⟩) hHeld ?_ ?_
        rotate_left
        · rintro w' ⟨s0, s1, s2⟩
          go_simp
          first | with_reducible rfl | done | skip
        rotate_left
        · simp only [Act.put, List.setIfInBounds_toArray, List.set_cons_zero, List.set_cons_succ, i64_w, i32_w]
          rfl
        refine take_ (i := 3) (N := some 29) (v := ?_) (a' := ?_) #[true, true, true, true, false, false, false] rfl rfl (by kernel_rfl) (fun _ _ _ h => h) (Or.inl ⟨by rfl, ?_⟩) hHeld ?_ ?_
        rotate_left
        · rintro w' ⟨s0, s1, s2⟩
          go_simp
          first | with_reducible rfl | done | skip
        rotate_left
        · simp only [Act.put, List.setIfInBounds_toArray, List.set_cons_zero, List.set_cons_succ, i64_w, i32_w]
          rfl
        refine pure_ (i := 4) (N := some 30) (v := ?_) (a' := ?_) #[true, true, true, true, true, false, false] rfl rfl (by kernel_rfl) (fun _ _ _ h => h) (Or.inl ⟨by rfl, ?_⟩) ?_ ?_
        rotate_left
        · intro w'
          go_simp
          first | with_reducible rfl | done | skip
        rotate_left
        · simp only [Act.put, List.setIfInBounds_toArray, List.set_cons_zero, List.set_cons_succ, i64_w, i32_w]
          rfl
        refine one_ (i := 5) (N := some 13) #[true, true, true, true, true, true, false] rfl rfl (by kernel_rfl) (by decide) (fun K hK => ?_)
        refine box_step (N := 13) (by rfl) rfl (cs := #[.int .u64 0, .int .u64 0]) (t := 59) (by first | (go_simp; done) | (go_simp; rfl)) ?_
        intro g13 hg13 w1 hbox hb1
        have HG := Aside0.mk (show g13 = W.heap.size from hg13)
        clear hg13
        replace hb1 : Below W.heap.size W w1 := ⟨hb1.os, hb1.tape, hb1.output, hb1.size, hb1.block⟩
        refine hK.out _ _ ⟨(hb1.cell (p := ⟨w.heap.size, 0, none⟩) (by show w.heap.size < _; have := HL.out.2.1; omega)).trans g7, (hb1.cell (World.block_lt_of_cell? W _ hc2)).trans hc2, (hb1.cell (p := ⟨w.heap.size + 5, 0, none⟩) (by show w.heap.size + 5 < _; have := HL.out.2.1; omega)).trans g11⟩ (fun hHeld => ?_)
        clear hK K
        refine norm_ (a' := ?_) ?_ ?_
        rotate_left
        · show Act.put _ (some 13) _ = _
          simp only [Act.put, List.setIfInBounds_toArray, List.set_cons_zero, List.set_cons_succ, i64_w, i32_w]
          rfl
        refine last_ (i := 6) (N := none) #[true, true, true, true, true, true, true] rfl rfl (by kernel_rfl) (by decide) (fun K hK => ?_)
        have z0 : w1.cell? ⟨g13, 0, none⟩ = some (.int .u64 0) := blk_cell hbox 0
        have z1 : w1.cell? ⟨g13, 1, none⟩ = some (.int .u64 0) := blk_cell hbox 1
        have y0 : w1.frozen? ⟨g13, 0, none⟩ = false := blk_frozen hbox 0
        have y1 : w1.frozen? ⟨g13, 1, none⟩ = false := blk_frozen hbox 1
        rw [if_pos (by rfl)]
        go_simp
        refine hK.out _ _ ?_
        clear hK K
        refine done_ (by kernel_rfl) ?_
        have hB2 : ((w1.setCell ⟨g13, 0, none⟩ (.int .u64 (rd q 0))).setCell ⟨g13, 1, none⟩ (.int .u64 up)).heap[g13]? = some (.cells #[.int .u64 (rd q 0), .int .u64 up] 59 (0, 0)) := blk_set (blk_set hbox 0 _) 1 _
        have hb2 : Below W.heap.size W ((w1.setCell ⟨g13, 0, none⟩ (.int .u64 (rd q 0))).setCell ⟨g13, 1, none⟩ (.int .u64 up)) := (hb1.setCell (p := ⟨g13, 0, none⟩) (by rw [HG.out]; exact Nat.le_refl _) _).setCell (p := ⟨g13, 1, none⟩) (by rw [HG.out]; exact Nat.le_refl _) _
        clear z0 z1 y0 y1 hbox hb1 hHeld
        generalize ((w1.setCell ⟨g13, 0, none⟩ (.int .u64 (rd q 0))).setCell ⟨g13, 1, none⟩ (.int .u64 up)) = w2 at hB2 hb2 ⊢
        have m7 : w2.cell? ⟨w.heap.size, 0, none⟩ = some (.slice (some ad) q.length c') := (hb2.cell (p := ⟨w.heap.size, 0, none⟩) (by show w.heap.size < _; have := HL.out.2.1; omega)).trans g7
        have m10 : w2.cell? ⟨w.heap.size + 4, 0, none⟩ = some lv := (hb2.cell (p := ⟨w.heap.size + 4, 0, none⟩) (by show w.heap.size + 4 < _; have := HL.out.2.1; omega)).trans g10
        have m11 : w2.cell? ⟨w.heap.size + 5, 0, none⟩ = some (.int .u64 up) := (hb2.cell (p := ⟨w.heap.size + 5, 0, none⟩) (by show w.heap.size + 5 < _; have := HL.out.2.1; omega)).trans g11
        have mad : w2.cell? ad = some (.int .u64 (rd q 0)) := (hb2.cell (World.block_lt_of_cell? W _ hc2)).trans hc2
        have z0 : w2.cell? ⟨g13, 0, none⟩ = some (.int .u64 (rd q 0)) := blk_cell hB2 0
        have z1 : w2.cell? ⟨g13, 1, none⟩ = some (.int .u64 up) := blk_cell hB2 1
        obtain ⟨i0, hi0, _, hsz0, _⟩ := info_parts info22h
        obtain ⟨A2, hcut1, hcut2, hcut3⟩ := print_cut_int (P := Try.prog) (k := .u64) 41 22 Try.underlying41 hi0 hsz0 (some ad) c' q 1 (by omega) (by omega) HA.out.2
        have HC := Aside0.mk (And.intro hcut2 hcut3)
        clear hcut2 hcut3 hi0 hsz0
        gi_wp2
        refine startR_ (n := 3) (m := 14) (S := fun w' => w'.cell? ⟨g13, 0, none⟩ = some (.int .u64 (rd q 0)) ∧ w'.cell? ⟨g13, 1, none⟩ = some (.int .u64 up) ∧ w'.cell? ⟨w.heap.size, 0, none⟩ = some (.slice (some ad) q.length c')) (ds := [13]) #[false, false, false, false, false, false, false, false, false, false, false, false, false, false] (by kernel_rfl) (by decide +kernel) (by rintro ⟨_, _, h⟩; obtain ⟨_, ⟨h, _⟩ | ⟨h, _⟩⟩ := h <;> cases h) rfl rfl ⟨z0, z1, m7⟩ (fun hHeld => ?_)
        have hBd : w2.drew.heap[g13]? = some (.cells #[.int .u64 (rd q 0), .int .u64 up] 59 (0, 0)) := hB2
        have hbd : Below W.heap.size W w2.drew := below_drew1 hb2
        have m10d : w2.drew.cell? ⟨w.heap.size + 4, 0, none⟩ = some lv := m10
        clear hB2 hb2 m7 m10 m11 mad z0 z1
        generalize w2.drew = wd at hBd hbd m10d hHeld ⊢
        refine take_ (i := 1) (N := some 38) (v := ?_) (a' := ?_) #[false, true, false, false, false, false, false, false, false, false, false, false, false, false] rfl rfl (by kernel_rfl) (fun _ _ _ h => h) (Or.inl ⟨by rfl, ?_⟩) hHeld ?_ ?_
        rotate_left
        · rintro w' ⟨s0, s1, s2⟩
          go_simp
          first | with_reducible rfl | done | skip
        rotate_left
        · simp only [Act.put, List.setIfInBounds_toArray, List.set_cons_zero, List.set_cons_succ, i64_w, i32_w]
          rfl
        refine pure_ (i := 4) (N := some 41) (v := ?_) (a' := ?_) #[false, true, false, false, true, false, false, false, false, false, false, false, false, false] rfl rfl (by kernel_rfl) (fun _ _ _ h => h) (Or.inl ⟨by rfl, ?_⟩) ?_ ?_
        rotate_left
        · intro w'
          go_simp
          first | with_reducible rfl | done | skip
        rotate_left
        · simp only [Act.put, List.setIfInBounds_toArray, List.set_cons_zero, List.set_cons_succ, i64_w, i32_w]
          rfl
        refine take_ (i := 5) (N := some 42) (v := ?_) (a' := ?_) #[false, true, false, false, true, true, false, false, false, false, false, false, false, false] rfl rfl (by kernel_rfl) (fun _ _ _ h => h) (Or.inl ⟨by rfl, ?_⟩) hHeld ?_ ?_
        rotate_left
        · rintro w' ⟨s0, s1, s2⟩
          go_simp
          first | with_reducible rfl | done | skip
        rotate_left
        · simp only [Act.put, List.setIfInBounds_toArray, List.set_cons_zero, List.set_cons_succ, i64_w, i32_w]
          rfl
        refine pure_ (i := 6) (N := some 43) (v := ?_) (a' := ?_) #[false, true, false, false, true, true, true, false, false, false, false, false, false, false] rfl rfl (by kernel_rfl) (fun _ _ _ h => h) (Or.inl ⟨by rfl, ?_⟩) ?_ ?_
        rotate_left
        · intro w'
          go_simp
          first | with_reducible rfl | done | skip
        rotate_left
        · simp only [Act.put, List.setIfInBounds_toArray, List.set_cons_zero, List.set_cons_succ, i64_w, i32_w]
          rfl
        refine take_ (i := 7) (N := some 44) (v := ?_) (a' := ?_) #[false, true, false, false, true, true, true, true, false, false, false, false, false, false] rfl rfl (by kernel_rfl) (fun _ _ _ h => h) (Or.inl ⟨by rfl, ?_⟩) hHeld ?_ ?_
        rotate_left
        · rintro w' ⟨s0, s1, s2⟩
          go_simp
          first | with_reducible rfl | done | skip
        rotate_left
        · simp only [Act.put, List.setIfInBounds_toArray, List.set_cons_zero, List.set_cons_succ, i64_w, i32_w]
          rfl
        refine take_ (i := 9) (N := some 46) (v := ?_) (a' := ?_) #[false, true, false, false, true, true, true, true, false, true, false, false, false, false] rfl rfl (by kernel_rfl) (fun _ _ _ h => h) (Or.inl ⟨by rfl, ?_⟩) hHeld ?_ ?_
        rotate_left
        · rintro w' ⟨s0, s1, s2⟩
          go_simp
          first | with_reducible rfl | done | skip
        rotate_left
        · simp only [Act.put, List.setIfInBounds_toArray, List.set_cons_zero, List.set_cons_succ, i64_w, i32_w]
          rfl
        refine pure_ (i := 10) (N := some 47) (v := ?_) (a' := ?_) #[false, true, false, false, true, true, true, true, false, true, true, false, false, false] rfl rfl (by kernel_rfl) (fun _ _ _ h => h) (Or.inl ⟨by rfl, ?_⟩) ?_ ?_
        rotate_left
        · intro w'
          go_simp
          first | with_reducible rfl | done | skip
        rotate_left
        · simp only [Act.put, List.setIfInBounds_toArray, List.set_cons_zero, List.set_cons_succ, i64_w, i32_w]
          rfl
        refine join_ (σ := Unit) 5 #[true, true, true, false, true, true, true, true, false, true, true, false, false, false] (fun _ => [(37, lv), (39, (.slice (some ⟨wd.heap.size, 0, none⟩) 1 1))]) (fun _ w' => w' = wd.alloc (.cells #[.int .u64 (rd q 0), .int .u64 up] 59)) ?_ (fun hJ => ?_)
        rotate_left
        · refine two_ (i := 0) (j := 2) (Ni := some 37) (Nj := some 39) #[true, true, false, false, true, true, true, true, false, true, true, false, false, false] #[false, true, true, false, true, true, true, true, false, true, true, false, false, false] rfl rfl rfl rfl (by kernel_rfl) (by decide) (by decide) (fun K hK => ?_) (fun K hK => ?_)
          · refine event_step (v := lv) (w1 := wd) (by rfl) (by first | (go_simp; done) | (go_simp; rfl)) ?_
            refine hK.out _ _ hHeld (fun _ => ?_)
            clear hK K
            refine one_ (i := 2) (N := some 39) #[true, true, true, false, true, true, true, true, false, true, true, false, false, false] rfl rfl (by kernel_rfl) (by decide) (fun K hK => ?_)
            refine event_step (v := (.slice (some ⟨wd.heap.size, 0, none⟩) 1 1)) (w1 := wd.alloc (.cells #[.int .u64 (rd q 0), .int .u64 up] 59)) (by rfl) (by first | (go_simp; done) | (go_simp; rfl)) ?_
            refine hK.out _ _ ⟨(cell_alloc_ hHeld.1).trans hHeld.1, (cell_alloc_ hHeld.2.1).trans hHeld.2.1, (cell_alloc_ hHeld.2.2).trans hHeld.2.2⟩ (fun hHeld2 => ?_)
            clear hK K
            exact hJ () _ rfl
          · refine event_step (v := (.slice (some ⟨wd.heap.size, 0, none⟩) 1 1)) (w1 := wd.alloc (.cells #[.int .u64 (rd q 0), .int .u64 up] 59)) (by rfl) (by first | (go_simp; done) | (go_simp; rfl)) ?_
            refine hK.out _ _ ⟨(cell_alloc_ hHeld.1).trans hHeld.1, (cell_alloc_ hHeld.2.1).trans hHeld.2.1, (cell_alloc_ hHeld.2.2).trans hHeld.2.2⟩ (fun hHeld2 => ?_)
            clear hK K
            have m10a := (cell_alloc_ (o := .cells #[.int .u64 (rd q 0), .int .u64 up] 59) m10d).trans m10d
            refine one_ (i := 0) (N := some 37) #[true, true, true, false, true, true, true, true, false, true, true, false, false, false] rfl rfl (by kernel_rfl) (by decide) (fun K hK => ?_)
            refine event_step (v := lv) (w1 := wd.alloc (.cells #[.int .u64 (rd q 0), .int .u64 up] 59)) (by rfl) (by first | (go_simp; done) | (go_simp; rfl)) ?_
            refine hK.out _ _ hHeld2 (fun _ => ?_)
            clear hK K
            exact norm_ (by show Act.put (Act.put _ (some 39) _) (some 37) _ = _; simp only [putAll, Act.put, List.setIfInBounds_toArray, List.set_cons_zero, List.set_cons_succ]) (hJ () _ rfl)
        rintro ⟨⟩ _ rfl
        refine norm_ (a' := ?_) ?_ ?_
        rotate_left
        · simp only [putAll, Act.put, List.setIfInBounds_toArray, List.set_cons_zero, List.set_cons_succ, i64_w, i32_w]
          rfl
        have hDl : k + 1 < 4097 := by have := dirs_length N N I; omega
        have hsz8 : w.heap.size + 10 ≤ wd.heap.size := by have := HL.out.2.1; have := hbd.size; omega
        have hvb : ∀ i, v.ownBlock = some i → i < W.heap.size := fun i hi => own_lt HW.out i hi
        have hlb : ∀ i, lv.ownBlock = some i → i < W.heap.size ∧ okN w.heap.size (w.heap.size + 8) v i := fun i hi => ⟨((Kd.R_bound HR.out).1 i hi).2.2.1, HR.out.1 i hi⟩
        refine one_ (i := 3) (N := some 40) #[true, true, true, true, true, true, true, true, false, true, true, false, false, false] rfl rfl (by kernel_rfl) (by decide) (fun K hK => ?_)
        refine Kd.R_append_step k59 (w0 := w) w.heap.size (by rfl) (.tmp 37) (.tmp 39) 81 59 (.agg #[(.int .u64 0), (.int .u64 0)]) 16 rfl Try.underlying81 info59p rfl (by decide) (by omega) lv (prsN (dirs N N I) p leaf k) ⟨(rd q 0), up⟩ [.int .u64 (rd q 0), .int .u64 up] (okN w.heap.size (w.heap.size + 8) v) (fun _ => False) rfl rfl (k59_mkM _ _ _ _) (fun _ h => h.elim) (fun i hi => ⟨.inr (.inr (by omega)), fun he => by have := hvb i he.symm; have := hbd.size; omega⟩) (Kd.R_below HR.out hbd) (HL.out.1.trans (hbd.mono (by have := HL.out.2.1; omega))) (by omega) (by rw [prsN_length]; omega) ?_
        intro v1 w4 HR4 HB4 hgrow _
        obtain ⟨Av, cv, ev⟩ := Kd.R_slice HR4
        obtain ⟨nv, hnv⟩ : ∃ n, n = (prsN (dirs N N I) p leaf k ++ [(⟨(rd q 0), up⟩ : S59)]).length := ⟨_, rfl⟩
        rw [← hnv] at ev
        subst ev
        clear hnv
        have k13 : w4.heap[g13]? = some (.cells #[.int .u64 (rd q 0), .int .u64 up] 59 (0, 0)) := (hgrow.block g13 (blk_lt hBd) (fun he => by have := (hlb _ he.symm).1; have := HG.out; omega)).trans hBd
        have kold : ∀ i, i < W.heap.size → some i ≠ lv.ownBlock → w4.heap[i]? = W.heap[i]? := fun i h1 h2 => (hgrow.block i (by have := hbd.size; omega) h2).trans (hbd.block i h1)
        have kne : ∀ i, i < w.heap.size + 10 → ¬ (i < w.heap.size ∨ i = w.heap.size + 3) → some i ≠ lv.ownBlock := fun i h1 h2 he => by have := (hlb i he.symm).2.1; omega
        have hWs := HL.out.2.1
        have k7 := (kold w.heap.size (by omega) (kne _ (by omega) (by omega))).trans H7.out
        have k10 := (kold (w.heap.size + 4) (by omega) (kne _ (by omega) (by omega))).trans H10.out
        have k11 := (kold (w.heap.size + 5) (by omega) (kne _ (by omega) (by omega))).trans H11.out
        refine hK.out _ _ ⟨blk_cell k13 0, blk_cell k13 1, blk_cell k7 0⟩ (fun hHeld2 => ?_)
        clear hK K
        refine norm_ (a' := ?_) ?_ ?_
        rotate_left
        · show Act.put _ (some 40) _ = _
          simp only [Act.put, List.setIfInBounds_toArray, List.set_cons_zero, List.set_cons_succ, i64_w, i32_w]
          rfl
        refine one_ (i := 8) (N := some 45) #[true, true, true, true, true, true, true, true, true, true, true, false, false, false] rfl rfl (by kernel_rfl) (by decide) (fun K hK => ?_)
        refine goes_ Try.func21 (by kernel_rfl) rfl #[.int .u64 (rd q 0), .int .u64 up] (by rfl) rfl rfl (by (try simp only [List.map_toArray, List.map_cons, List.map_nil]); first | done | rfl) ?_
        with_reducible refine (digest_Join.calls _ _ _ _ (joinV_f _ _)).mono ?_
        rintro e w' ⟨rfl, ⟨nd2, rfl⟩⟩
        refine ⟨_, rfl, ?_⟩
        have k13d : (w4.drewN nd2).heap[g13]? = some (.cells #[.int .u64 (rd q 0), .int .u64 up] 59 (0, 0)) := k13
        have k7d : (w4.drewN nd2).heap[w.heap.size]? = some (.cells #[.slice (some ad) q.length c'] 41 (0, 0)) := k7
        have k10d : (w4.drewN nd2).heap[w.heap.size + 4]? = some (.cells #[lv] 81 (0, 0)) := k10
        have k11d : (w4.drewN nd2).heap[w.heap.size + 5]? = some (.cells #[.int .u64 up] 22 (0, 0)) := k11
        refine hK.out _ _ ⟨blk_cell k13d 0, blk_cell k13d 1, blk_cell k7d 0⟩ (fun hHeld3 => ?_)
        clear hK K
        have hrd : rd q 0 = rd p k := by rw [HQ.out.1]; exact rd_drop p k
        have hpr : prN (dirs N N I) p leaf k = ⟨(rd q 0), up⟩ := by unfold prN; rw [← HQ.out.2.1, ← HQ.out.2.2, ← hrd]; rfl
        have hd : q.drop 1 = p.drop (k + 1) := by rw [HQ.out.1, List.drop_drop]
        have HF := Aside0.mk (PJ.next (w0 := w) (D := dirs N N I) (p := p) (leaf := leaf) (k := k) (Wa := w4.drewN nd2)  (A2 := A2) (c2 := c' - 1) (up2 := joinV (rd q 0) up) ⟨_, H7.out⟩ H8.out H9.out H10.out ⟨_, H11.out⟩ HW.out hWs HR.out kold (Nat.le_trans hbd.size hgrow.size) (pw_below_drewN HB4 nd2) (by rw [prsN_succ, hpr]; exact Kd.R_drewN HR4 nd2) (by rw [← hd]; exact Kd.C_of_reads (h1 := fun _ => rfl) (HC.out.1 w (Kd.reads_of_C HA.out.1))) (by rw [← hd, List.length_drop]; have := HA.out.2; omega) (by have h := congrArg List.length HQ.out.1; rw [List.length_drop] at h; omega) (by simp only [upN]; rw [← HQ.out.2.1, ← HQ.out.2.2, ← hrd]; rfl))
        rw [← hd] at HF
        clear hrd hpr hd k13 k7 k10 k11 kold kne hgrow HB4 HR4 hHeld2 hlb hvb m10d
        generalize w4.drewN nd2 = w5 at k13d k7d k10d k11d hHeld3 HF ⊢
        refine norm_ (a' := ?_) ?_ ?_
        rotate_left
        · show Act.put _ (some 45) _ = _
          simp only [Act.put, List.setIfInBounds_toArray, List.set_cons_zero, List.set_cons_succ, i64_w, i32_w]
          rfl
        have x0 := blk_cell k10d 0
        have x1 := blk_frozen k10d 0
        refine one_ (i := 11) (N := none) #[true, true, true, true, true, true, true, true, true, true, true, true, false, false] rfl rfl (by kernel_rfl) (by decide) (fun K hK => ?_)
        rw [if_pos (by rfl)]
        go_simp
        clear x0 x1
        replace k13d := blk_far k13d (p := ⟨w.heap.size + 4, 0, none⟩) (by simp; have := HG.out; omega) (.slice Av nv cv)
        replace k7d := blk_far k7d (p := ⟨w.heap.size + 4, 0, none⟩) (by simp) (.slice Av nv cv)
        replace k11d := blk_far k11d (p := ⟨w.heap.size + 4, 0, none⟩) (by simp) (.slice Av nv cv)
        refine hK.out _ _ ⟨blk_cell k13d 0, blk_cell k13d 1, blk_cell k7d 0⟩ (fun hHeld4 => ?_)
        clear hK K
        have x0 := blk_cell k11d 0
        have x1 := blk_frozen k11d 0
        refine one_ (i := 12) (N := none) #[true, true, true, true, true, true, true, true, true, true, true, true, true, false] rfl rfl (by kernel_rfl) (by decide) (fun K hK => ?_)
        rw [if_pos (by rfl)]
        go_simp
        clear x0 x1
        replace k13d := blk_far k13d (p := ⟨w.heap.size + 5, 0, none⟩) (by simp; have := HG.out; omega) (.int .u64 (joinV (rd q 0) up))
        replace k7d := blk_far k7d (p := ⟨w.heap.size + 5, 0, none⟩) (by simp) (.int .u64 (joinV (rd q 0) up))
        refine hK.out _ _ ⟨blk_cell k13d 0, blk_cell k13d 1, blk_cell k7d 0⟩ (fun hHeld4 => ?_)
        clear hK K
        have x0 := blk_cell k7d 0
        have x1 := blk_frozen k7d 0
        refine last_ (i := 13) (N := none) #[true, true, true, true, true, true, true, true, true, true, true, true, true, true] rfl rfl (by kernel_rfl) (by decide) (fun K hK => ?_)
        rw [if_pos (by rfl)]
        go_simp
        refine hK.out _ _ ?_
        clear hK K
        refine done_ (by kernel_rfl) ?_
        gi_wp2
        have h := HF.out
        rw [List.length_drop] at h
        exact h
  case done =>
    clear p7 p8 p9 p3 p10 p11 pb1 pb2 pbl
    rintro v W ⟨⟨A', c', h7, hA, hcap⟩, h8, h9, ⟨lv, h10, hR⟩, h11, hrow, hbl, hs, hkp⟩ hdf
    rw [psz] at hdf ⊢
    obtain ⟨q, hq⟩ : ∃ q, q = p.drop (dirs N N I).length := ⟨_, rfl⟩
    obtain ⟨up, hup⟩ : ∃ up, up = upN (dirs N N I) p leaf (dirs N N I).length := ⟨_, rfl⟩
    rw [← hq] at h7 hA hcap
    rw [← hup] at h11
    have g7 : W.cell? ⟨w.heap.size, 0, none⟩ = some (.slice A' q.length c') := blk_cell h7 0
    have g10 : W.cell? ⟨w.heap.size + 4, 0, none⟩ = some lv := blk_cell h10 0
    have g11 : W.cell? ⟨w.heap.size + 5, 0, none⟩ = some (.int .u64 up) := blk_cell h11 0
    have H7 := Aside0.mk h7
    have H8 := Aside0.mk h8
    have H9 := Aside0.mk h9
    have H10 := Aside0.mk h10
    have H11 := Aside0.mk h11
    have HR := Aside0.mk hR
    have HW := Aside0.mk hrow
    have HL := Aside0.mk (And.intro hbl (And.intro hs hkp))
    have HQ := Aside0.mk (And.intro hq hup)
    have HD := Aside0.mk hdf
    clear h7 h8 h9 h10 h11 hR hrow hbl hs hkp hA hcap hq hup psz hdf
    refine ‹∀ (a : Act) (w : World), Code.wpIn Fence.wide 5 Try.prog _ _ a w → _› _ _ (wpIn_mono (Q := fun e a w' => (e = .normal ∨ e = .ret) ∧ bodyPostM Fence.wide 5 Try.prog Try.f55 (PairsPost N I leaf p w) e a w') ?_ (fun e a w' h => h.2))
    gi_wp2
    refine startW_ (n := 5) (m := 12) (S := fun w' => w'.cell? ⟨w.heap.size + 4, 0, none⟩ = some lv ∧ w'.cell? ⟨w.heap.size + 5, 0, none⟩ = some (.int .u64 up) ∧ w'.cell? ⟨w.heap.size, 0, none⟩ = some (.slice A' q.length c')) (ds := [11]) #[false, false, false, false, false, false, false, false, false, false, false, false] (by kernel_rfl) (by decide +kernel) (by rintro ⟨_, _, h⟩; obtain ⟨h | h, _⟩ := h <;> cases h) rfl rfl ⟨g10, g11, g7⟩ (fun hHeld => ?_)
    have hbd : Below W.heap.size W W.drew := below_drew1 (Below.refl _ _)
    generalize W.drew = wd at hbd hHeld ⊢
    have hNw : IntKind.u64.wrap (N : Int) = (N : Int) := by rw [IntKind.wrap_u64]; omega
    refine take_ (i := 0) (N := some 48) (v := ?_) (a' := ?_) #[true, false, false, false, false, false, false, false, false, false, false, false] rfl rfl (by kernel_rfl) (fun _ _ _ h => by obtain ⟨h | h, _⟩ := h <;> cases h) (Or.inl ⟨by rfl, ?_⟩) hHeld ?_ ?_
    rotate_left
    · rintro w' ⟨s0, s1, s2⟩
      go_simp
      first | with_reducible rfl | done | skip
    rotate_left
    · simp only [Act.put, List.setIfInBounds_toArray, List.set_cons_zero, List.set_cons_succ, i64_w, i32_w]
      rfl
    refine pure_ (i := 1) (N := some 49) (v := ?_) (a' := ?_) #[true, true, false, false, false, false, false, false, false, false, false, false] rfl rfl (by kernel_rfl) (fun _ _ _ h => by obtain ⟨h | h, _⟩ := h <;> cases h) (Or.inl ⟨by rfl, ?_⟩) ?_ ?_
    rotate_left
    · intro w'
      go_simp
      first | with_reducible rfl | done | skip
    rotate_left
    · simp only [Act.put, List.setIfInBounds_toArray, List.set_cons_zero, List.set_cons_succ, i64_w, i32_w]
      rfl
    refine pure_ (i := 2) (N := some 50) (v := ?_) (a' := ?_) #[true, true, true, false, false, false, false, false, false, false, false, false] rfl rfl (by kernel_rfl) (fun _ _ _ h => by obtain ⟨h | h, _⟩ := h <;> cases h) (Or.inl ⟨by rfl, ?_⟩) ?_ ?_
    rotate_left
    · intro w'
      go_simp
      first | with_reducible rfl | done | skip
    rotate_left
    · simp only [Act.put, List.setIfInBounds_toArray, List.set_cons_zero, List.set_cons_succ, i64_w, i32_w]
      rfl
    clear hNw
    refine take_ (i := 3) (N := some 51) (v := ?_) (a' := ?_) #[true, true, true, true, false, false, false, false, false, false, false, false] rfl rfl (by kernel_rfl) (fun _ _ _ h => by obtain ⟨h | h, _⟩ := h <;> cases h) (Or.inl ⟨by rfl, ?_⟩) hHeld ?_ ?_
    rotate_left
    · rintro w' ⟨s0, s1, s2⟩
      go_simp
      first | with_reducible rfl | done | skip
    rotate_left
    · simp only [Act.put, List.setIfInBounds_toArray, List.set_cons_zero, List.set_cons_succ, i64_w, i32_w]
      rfl
    refine pure_ (i := 4) (N := some 52) (v := ?_) (a' := ?_) #[true, true, true, true, true, false, false, false, false, false, false, false] rfl rfl (by kernel_rfl) (fun _ _ _ h => by obtain ⟨h | h, _⟩ := h <;> cases h) (Or.inl ⟨by rfl, ?_⟩) ?_ ?_
    rotate_left
    · intro w'
      go_simp
      first | with_reducible rfl | done | skip
    rotate_left
    · simp only [Act.put, List.setIfInBounds_toArray, List.set_cons_zero, List.set_cons_succ, i64_w, i32_w]
      rfl
    refine take_ (i := 7) (N := some 55) (v := ?_) (a' := ?_) #[true, true, true, true, true, false, false, true, false, false, false, false] rfl rfl (by kernel_rfl) (fun _ _ _ h => by obtain ⟨h | h, _⟩ := h <;> cases h) (Or.inl ⟨by rfl, ?_⟩) hHeld ?_ ?_
    rotate_left
    · rintro w' ⟨s0, s1, s2⟩
      go_simp
      first | with_reducible rfl | done | skip
    rotate_left
    · simp only [Act.put, List.setIfInBounds_toArray, List.set_cons_zero, List.set_cons_succ, i64_w, i32_w]
      rfl
    refine pure_ (i := 8) (N := some 56) (v := ?_) (a' := ?_) #[true, true, true, true, true, false, false, true, true, false, false, false] rfl rfl (by kernel_rfl) (fun _ _ _ h => by obtain ⟨h | h, _⟩ := h <;> cases h) (Or.inl ⟨by rfl, ?_⟩) ?_ ?_
    rotate_left
    · intro w'
      go_simp
      first | with_reducible rfl | done | skip
    rotate_left
    · simp only [Act.put, List.setIfInBounds_toArray, List.set_cons_zero, List.set_cons_succ, i64_w, i32_w]
      rfl
    refine pure_ (i := 9) (N := some 57) (v := ?_) (a' := ?_) #[true, true, true, true, true, false, false, true, true, true, false, false] rfl rfl (by kernel_rfl) (fun _ _ _ h => by obtain ⟨h | h, _⟩ := h <;> cases h) (Or.inl ⟨by rfl, ?_⟩) ?_ ?_
    rotate_left
    · intro w'
      go_simp
      first | with_reducible rfl | done | skip
    rotate_left
    · simp only [Act.put, List.setIfInBounds_toArray, List.set_cons_zero, List.set_cons_succ, i64_w, i32_w]
      rfl
    refine one_ (i := 5) (N := some 53) #[true, true, true, true, true, true, false, true, true, true, false, false] rfl rfl (by kernel_rfl) (by decide) (fun K hK => ?_)
    refine event_step (v := (.slice (some ⟨wd.heap.size, 0, none⟩) 1 1)) (w1 := wd.alloc (.cells #[.int .u64 (N : Int), .int .u64 up] 59)) (by rfl) (by first | (go_simp; done) | (go_simp; rfl)) ?_
    refine hK.out _ _ ⟨(cell_alloc_ hHeld.1).trans hHeld.1, (cell_alloc_ hHeld.2.1).trans hHeld.2.1, (cell_alloc_ hHeld.2.2).trans hHeld.2.2⟩ (fun hHeld2 => ?_)
    clear hK K
    refine norm_ (a' := ?_) ?_ ?_
    rotate_left
    · show Act.put _ (some 53) _ = _
      simp only [Act.put, List.setIfInBounds_toArray, List.set_cons_zero, List.set_cons_succ, i64_w, i32_w]
      rfl
    have hDl : (dirs N N I).length < 4097 := by have := dirs_length N N I; omega
    have hsz8 : w.heap.size + 10 ≤ wd.heap.size := by have := HL.out.2.1; have := hbd.size; omega
    have hvb : ∀ i, v.ownBlock = some i → i < W.heap.size := fun i hi => own_lt HW.out i hi
    have hlb : ∀ i, lv.ownBlock = some i → i < W.heap.size ∧ okN w.heap.size (w.heap.size + 8) v i := fun i hi => ⟨((Kd.R_bound HR.out).1 i hi).2.2.1, HR.out.1 i hi⟩
    refine one_ (i := 6) (N := some 54) #[true, true, true, true, true, true, true, true, true, true, false, false] rfl rfl (by kernel_rfl) (by decide) (fun K hK => ?_)
    refine Kd.R_append_step k59 (w0 := w) w.heap.size (by rfl) (.tmp 48) (.tmp 53) 81 59 (.agg #[(.int .u64 0), (.int .u64 0)]) 16 rfl Try.underlying81 info59p rfl (by decide) (by omega) lv (prsN (dirs N N I) p leaf (dirs N N I).length) ⟨(N : Int), up⟩ [.int .u64 (N : Int), .int .u64 up] (okN w.heap.size (w.heap.size + 8) v) (fun _ => False) rfl rfl (k59_mkM _ _ _ _) (fun _ h => h.elim) (fun i hi => ⟨.inr (.inr (by omega)), fun he => by have := hvb i he.symm; have := hbd.size; omega⟩) (Kd.R_below HR.out hbd) (HL.out.1.trans (hbd.mono (by have := HL.out.2.1; omega))) (by omega) (by rw [prsN_length]; omega) ?_
    intro v1 w4 HR4 HB4 hgrow _
    obtain ⟨Av, cv, ev⟩ := Kd.R_slice HR4
    obtain ⟨nv, hnv⟩ : ∃ n, n = (prsN (dirs N N I) p leaf (dirs N N I).length ++ [(⟨(N : Int), up⟩ : S59)]).length := ⟨_, rfl⟩
    rw [← hnv] at ev
    subst ev
    clear hnv
    have hWs := HL.out.2.1
    have kold : ∀ i, i < W.heap.size → some i ≠ lv.ownBlock → w4.heap[i]? = W.heap[i]? := fun i h1 h2 => (hgrow.block i (by have := hbd.size; omega) h2).trans (hbd.block i h1)
    have kne : ∀ i, i < w.heap.size + 10 → ¬ (i < w.heap.size ∨ i = w.heap.size + 3) → some i ≠ lv.ownBlock := fun i h1 h2 he => by have := (hlb i he.symm).2.1; omega
    have k7 := (kold w.heap.size (by omega) (kne _ (by omega) (by omega))).trans H7.out
    have k8 := (kold (w.heap.size + 1) (by omega) (kne _ (by omega) (by omega))).trans H8.out
    have k9 := (kold (w.heap.size + 2) (by omega) (kne _ (by omega) (by omega))).trans H9.out
    have k10 := (kold (w.heap.size + 4) (by omega) (kne _ (by omega) (by omega))).trans H10.out
    have k11 := (kold (w.heap.size + 5) (by omega) (kne _ (by omega) (by omega))).trans H11.out
    have kD := (kold (w.heap.size + 8) (by omega) (kne _ (by omega) (by omega))).trans HD.out
    refine hK.out _ _ ⟨blk_cell k10 0, blk_cell k11 0, blk_cell k7 0⟩ (fun hHeld3 => ?_)
    clear hK K hHeld2
    refine norm_ (a' := ?_) ?_ ?_
    rotate_left
    · show Act.put _ (some 54) _ = _
      simp only [Act.put, List.setIfInBounds_toArray, List.set_cons_zero, List.set_cons_succ, i64_w, i32_w]
      rfl
    have x0 := blk_cell k8 0
    have x1 := blk_frozen k8 0
    refine one_ (i := 10) (N := none) #[true, true, true, true, true, true, true, true, true, true, true, false] rfl rfl (by kernel_rfl) (by decide) (fun K hK => ?_)
    rw [if_pos (by rfl)]
    go_simp
    clear x0 x1
    have HP := Aside0.mk (pairs_after (p := p) (N := N) (I := I) (leaf := leaf) HR4 HB4 HQ.out.1 HQ.out.2 HL.out.2.2 k8 k9 kD)
    replace k7 := blk_far k7 (p := ⟨w.heap.size + 1, 0, none⟩) (by simp) (.slice Av nv cv)
    replace k9 := blk_far k9 (p := ⟨w.heap.size + 1, 0, none⟩) (by simp) (.slice Av nv cv)
    replace k10 := blk_far k10 (p := ⟨w.heap.size + 1, 0, none⟩) (by simp) (.slice Av nv cv)
    replace k11 := blk_far k11 (p := ⟨w.heap.size + 1, 0, none⟩) (by simp) (.slice Av nv cv)
    refine hK.out _ _ ⟨blk_cell k10 0, blk_cell k11 0, blk_cell k7 0⟩ (fun hHeld4 => ?_)
    clear hK K
    have x0 := blk_cell k9 0
    have x1 := blk_frozen k9 0
    refine last_ (i := 11) (N := none) #[true, true, true, true, true, true, true, true, true, true, true, true] rfl rfl (by kernel_rfl) (by decide) (fun K hK => ?_)
    rw [if_pos (by rfl)]
    go_simp
    refine hK.out _ _ ?_
    clear hK K x0 x1
    refine done_ (by kernel_rfl) ?_
    clear k7 k8 k9 k10 k11 kD hHeld3 hHeld4 kold kne hlb hvb HB4 HR4 hgrow
    generalize ((w4.setCell ⟨w.heap.size + 1, 0, none⟩ (.slice Av nv cv)).setCell ⟨w.heap.size + 1 + 1, 0, none⟩ (.bool ((q.length : Int) == 0))) = w5 at HP ⊢
    gi_wp2
    try refine ⟨.inr rfl, ?_⟩
    exact pairs_out HP.out.h8 HP.out.h9 HP.out.hD rfl rfl HP.out.hR.choose_spec HP.out.hok HP.out.hb (by omega)
  case stop =>
    clear p7 p8 p9 p3 p10 p11 pb1 pb2 pbl
    rintro W ⟨h8, h9, hbl, hs, hkp⟩ hdf
    rw [psz] at hdf ⊢
    gi_wp2
    exact pairs_out h8 h9 hdf rfl rfl (pairs_stop h8 h9 hdf hbl hkp).hR.choose_spec (pairs_stop (leaf := leaf) h8 h9 hdf hbl hkp).hok hbl (by omega)
end
def merkle_pairs.f (a0 a1 a2 : Int) (l3 : List Int) : Option (List S59 × Bool) := if a0 ≤ 4096 ∧ 0 ≤ a1 ∧ a1 < a0 ∧ l3.length ≤ 17592186044416 then some (pairsF a0.toNat a1.toNat a2 l3) else none
theorem merkle_pairs.calls (a0 a1 a2 : Int) (A3 : Option Addr) (c3 : Nat) (l3 : List Int) (r1 : List S59) (r2 : Bool) (w : World) (hr3 : Kd.C (Kd.int .u64) w A3 l3.length l3) (hc3 : l3.length ≤ c3) (h : merkle_pairs.f a0 a1 a2 l3 = some (r1, r2)) :
    Calls Try.prog 55 #[.int .i64 a0, .int .i64 a1, .int .u64 a2, .slice A3 l3.length c3] w fun e w' => ∃ v0_ : Value, e = .returned (.tuple #[v0_, .bool r2]) ∧ Kd.R k59 59 w' w.heap.size (fun _ => True) v0_ r1 ∧ Below w.heap.size w w' := by
  unfold merkle_pairs.f at h
  by_cases hc : a0 ≤ 4096 ∧ 0 ≤ a1 ∧ a1 < a0 ∧ l3.length ≤ 17592186044416
  · rw [if_pos hc] at h
    obtain ⟨h0, h1, h2, h3⟩ := hc
    obtain ⟨N, rfl⟩ := Int.eq_ofNat_of_zero_le (show 0 ≤ a0 by omega)
    obtain ⟨I, rfl⟩ := Int.eq_ofNat_of_zero_le h1
    have e := Option.some.inj h
    rw [Int.toNat_natCast, Int.toNat_natCast] at e
    refine (pairs_calls N I a2 A3 c3 l3 w (by omega) (by omega) (by omega) hr3 hc3).mono ?_
    rintro e2 w' ⟨v, rfl, hR, hb⟩
    rw [e] at hR
    exact ⟨v, by rw [e], hR, hb⟩
  · rw [if_neg hc] at h
    cases h

end Go.Proofs.Ytikicibbbeofnaa.MF
