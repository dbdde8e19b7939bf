-- Written by wip/hprint.py (this session's) with the kit's printer and contracts of our own. Not trusted: Lean checks it.
import Derived.Test.YtikicibbbeofnaaD0
import Derived.Test.YtikicibbbeofnaaD5
import Derived.Test.YtikicibbbeofnaaD8
import Derived.Test.YtikicibbbeofnaaD9
import Derived.Test.YtikicibbbeofnaaD11
import Derived.Test.YtikicibbbeofnaaD12
import Derived.Test.YtikicibbbeofnaaD13
namespace Go.Proofs.Ytikicibbbeofnaa.D
open Go.RowKit Go.Proofs.YtikicibbbeofnaaW.PrintWords Go.Proofs.YtikicibbbeofnaaW.PrintLast Go.Proofs.YtikicibbbeofnaaW.PrintMore
attribute [local go_sem] max2_int min2_int max_two min_two max_three min_three max_four min_four   -- for this text's walks alone
set_option linter.unusedVariables false
set_option linter.unusedSimpArgs false

/-! ### parolelaw04_MerkleChanges: function 12 -/
def parolelaw04_MerkleChanges.f (k : Nat) (l0 : List Int) (a1_0 : Int) (a1_1 : Int) (a2 : Int) : Option (Bool) := (parolelaw04_examples.f k).bind fun t380 => (if t380 = true then ((paroleref04_Grown.f k l0 (wrap64 (1 + (wrap64 (Int.tmod a1_0 300))))).bind fun t381 => (if (t381.length : Int) = 0 then (none) else ((parolelaw04_open.f t381 (Int.tmod (wrap64 (a1_1)) (t381.length : Int))).bind fun bt384 => ((some (([] : List Int) : List Int)).bind fun y389 => (if y389.length + t381.length < 17592186044416 then ((some (y389 ++ t381 : List Int)).bind fun y392 => (if 0 ≤ (Int.tmod (wrap64 (a1_1)) (t381.length : Int)) then (if (Int.tmod (wrap64 (a1_1)) (t381.length : Int)) < (y392.length : Int) then ((some (y392.set ((Int.tmod (wrap64 (a1_1)) (t381.length : Int)) : Int).toNat a2 : List Int)).bind fun y395 => ((parolelaw04_open.f y395 (Int.tmod (wrap64 (a1_1)) (t381.length : Int))).bind fun bt396 => (if bt384.2 = 0 then ((paroleref04_Same.f k bt384.1 bt396.1).bind fun t401 => (if t401 = true then ((merkle_Root.f y395).bind fun t402 => ((parolelaw04_check.f t402 (y392.length : Int) (Int.tmod (wrap64 (a1_1)) (t381.length : Int)) a2 bt384.1).bind fun t403 => (if t403 = 0 then (some t380) else (none)))) else (none))) else (none)))) else (none)) else (none))) else (none)))))) else (none))
theorem parolelaw04_MerkleChanges.mono : ∀ a0 a1 a2 a3 k, LeO (parolelaw04_MerkleChanges.f k a0 a1 a2 a3) (parolelaw04_MerkleChanges.f (k + 1) a0 a1 a2 a3) := by
  intro a0 a1 a2 a3 k
  unfold parolelaw04_MerkleChanges.f
  repeat' first
      | (with_reducible exact parolelaw04_examples.mono _)
      | (with_reducible exact paroleref04_Grown.mono _ _ _)
      | (with_reducible exact paroleref04_Same.mono _ _ _)
      | (with_reducible exact LeO.refl _)
      | (with_reducible exact LeO.none _)
      | (with_reducible refine LeO.ite ?_ ?_)
      | (with_reducible refine LeO.bind ?_ (fun _ => ?_))
      | exact parolelaw04_examples.mono _
      | exact paroleref04_Grown.mono _ _ _
      | exact paroleref04_Same.mono _ _ _
      | exact LeO.none _
      | refine LeO.ite ?_ ?_
      | refine LeO.bind ?_ (fun _ => ?_)
def parolelaw04_MerkleChanges.T10 : Bool × List (List Nat × List Nat) := (true, [([], []), ([0], [0]), ([1], [1]), ([2], [2]), ([3], [3]), ([4, 3], [3, 4]), ([3], [3]), ([6, 3], [3, 6]), ([5, 7, 3, 3], [3, 5, 7]), ([3, 8], [3, 8]), ([9, 8], [9]), ([10], [10]), ([11, 10, 10], [10, 11]), ([10], [10]), ([13, 10], [10, 13]), ([10], [10]), ([10], [10]), ([10], [10]), ([17, 10], [10, 17]), ([16, 18, 10], [10, 16, 18]), ([12, 14, 15, 19, 12, 10], [10, 12, 14, 15, 19]), ([20, 10], [10, 20]), ([10, 21], [10, 21]), ([22, 20], [22]), ([23], [23]), ([23, 24], [23, 24]), ([25, 23, 0, 1, 2, 3, 4, 5, 6, 7, 8, 9, 10, 11, 12, 13, 14, 15, 16, 17, 18, 19, 20, 21, 22, 23, 24, 25], [25])])
def parolelaw04_MerkleChanges.B10 : List Nat := [0, 1, 3, 7, 15, 31, 15, 79, 255, 511, 1023, 2047, 4095, 2047, 10239, 2047, 2047, 2047, 133119, 460799, 1048575, 2097151, 4194303, 8388607, 16777215, 33554431, 67108863]
theorem parolelaw04_MerkleChanges.tab10 : rtab .any (opsOf Try.f12 10) = parolelaw04_MerkleChanges.T10 := by kernel_rfl
theorem parolelaw04_MerkleChanges.bits10 : waitsOk parolelaw04_MerkleChanges.T10.2 parolelaw04_MerkleChanges.B10 = true := by kernel_rfl
set_option maxHeartbeats 8000000 in
set_option maxRecDepth 100000 in
theorem parolelaw04_MerkleChanges.calls (k : Nat) (A0 : Option Addr) (c0 : Nat) (l0 : List Int) (a1_0 : Int) (a1_1 : Int) (a2 : Int) (r : Bool) (w : World) (hr0 : Kd.C (Kd.int .u64) w A0 l0.length l0) (hc0 : l0.length ≤ c0) (h : parolelaw04_MerkleChanges.f k l0 a1_0 a1_1 a2 = some r) :
    Calls Try.prog 12 #[.slice A0 l0.length c0, .agg #[.int .u16 a1_0, .int .u16 a1_1], .int .u64 a2] w fun e w' => e = .returned (.bool r) ∧ Below w.heap.size w w' := by
  have hu53 := Try.underlying53
  have hu46 := Try.underlying46
  have hu50 := Try.underlying50
  have HR0 := Aside0.mk hr0
  have HC0 := Aside0.mk hc0
  clear hr0 hc0
  have HB := Aside0.mk (Below.refl w.heap.size w)
  have H : ((parolelaw04_examples.f k).bind fun t380 => (if t380 = true then ((paroleref04_Grown.f k l0 (wrap64 (1 + (wrap64 (Int.tmod a1_0 300))))).bind fun t381 => (if (t381.length : Int) = 0 then (none) else ((parolelaw04_open.f t381 (Int.tmod (wrap64 (a1_1)) (t381.length : Int))).bind fun bt384 => ((some (([] : List Int) : List Int)).bind fun y389 => (if y389.length + t381.length < 17592186044416 then ((some (y389 ++ t381 : List Int)).bind fun y392 => (if 0 ≤ (Int.tmod (wrap64 (a1_1)) (t381.length : Int)) then (if (Int.tmod (wrap64 (a1_1)) (t381.length : Int)) < (y392.length : Int) then ((some (y392.set ((Int.tmod (wrap64 (a1_1)) (t381.length : Int)) : Int).toNat a2 : List Int)).bind fun y395 => ((parolelaw04_open.f y395 (Int.tmod (wrap64 (a1_1)) (t381.length : Int))).bind fun bt396 => (if bt384.2 = 0 then ((paroleref04_Same.f k bt384.1 bt396.1).bind fun t401 => (if t401 = true then ((merkle_Root.f y395).bind fun t402 => ((parolelaw04_check.f t402 (y392.length : Int) (Int.tmod (wrap64 (a1_1)) (t381.length : Int)) a2 bt384.1).bind fun t403 => (if t403 = 0 then (some t380) else (none)))) else (none))) else (none)))) else (none)) else (none))) else (none)))))) else (none))) = some r := h
  clear h
  replace H := Option.bind_eq_some_iff.mp H
  obtain ⟨t380, A40, H⟩ := H
  replace H : (if t380 = true then ((paroleref04_Grown.f k l0 (wrap64 (1 + (wrap64 (Int.tmod a1_0 300))))).bind fun t381 => (if (t381.length : Int) = 0 then (none) else ((parolelaw04_open.f t381 (Int.tmod (wrap64 (a1_1)) (t381.length : Int))).bind fun bt384 => ((some (([] : List Int) : List Int)).bind fun y389 => (if y389.length + t381.length < 17592186044416 then ((some (y389 ++ t381 : List Int)).bind fun y392 => (if 0 ≤ (Int.tmod (wrap64 (a1_1)) (t381.length : Int)) then (if (Int.tmod (wrap64 (a1_1)) (t381.length : Int)) < (y392.length : Int) then ((some (y392.set ((Int.tmod (wrap64 (a1_1)) (t381.length : Int)) : Int).toNat a2 : List Int)).bind fun y395 => ((parolelaw04_open.f y395 (Int.tmod (wrap64 (a1_1)) (t381.length : Int))).bind fun bt396 => (if bt384.2 = 0 then ((paroleref04_Same.f k bt384.1 bt396.1).bind fun t401 => (if t401 = true then ((merkle_Root.f y395).bind fun t402 => ((parolelaw04_check.f t402 (y392.length : Int) (Int.tmod (wrap64 (a1_1)) (t381.length : Int)) a2 bt384.1).bind fun t403 => (if t403 = 0 then (some t380) else (none)))) else (none))) else (none)))) else (none)) else (none))) else (none)))))) else (none)) = some r := H
  have A4 := Aside0.mk A40
  clear A40
  by_cases c5 : t380 = true
  · subst c5
    have H1 : ((paroleref04_Grown.f k l0 (wrap64 (1 + (wrap64 (Int.tmod a1_0 300))))).bind fun t381 => (if (t381.length : Int) = 0 then (none) else ((parolelaw04_open.f t381 (Int.tmod (wrap64 (a1_1)) (t381.length : Int))).bind fun bt384 => ((some (([] : List Int) : List Int)).bind fun y389 => (if y389.length + t381.length < 17592186044416 then ((some (y389 ++ t381 : List Int)).bind fun y392 => (if 0 ≤ (Int.tmod (wrap64 (a1_1)) (t381.length : Int)) then (if (Int.tmod (wrap64 (a1_1)) (t381.length : Int)) < (y392.length : Int) then ((some (y392.set ((Int.tmod (wrap64 (a1_1)) (t381.length : Int)) : Int).toNat a2 : List Int)).bind fun y395 => ((parolelaw04_open.f y395 (Int.tmod (wrap64 (a1_1)) (t381.length : Int))).bind fun bt396 => (if bt384.2 = 0 then ((paroleref04_Same.f k bt384.1 bt396.1).bind fun t401 => (if t401 = true then ((merkle_Root.f y395).bind fun t402 => ((parolelaw04_check.f t402 (y392.length : Int) (Int.tmod (wrap64 (a1_1)) (t381.length : Int)) a2 bt384.1).bind fun t403 => (if t403 = 0 then (some true) else (none)))) else (none))) else (none)))) else (none)) else (none))) else (none)))))) = some r := by rw [if_pos rfl] at H; exact H
    clear H
    have H := H1
    clear H1
    replace H := Option.bind_eq_some_iff.mp H
    obtain ⟨t381, A60, H⟩ := H
    replace H : (if (t381.length : Int) = 0 then (none) else ((parolelaw04_open.f t381 (Int.tmod (wrap64 (a1_1)) (t381.length : Int))).bind fun bt384 => ((some (([] : List Int) : List Int)).bind fun y389 => (if y389.length + t381.length < 17592186044416 then ((some (y389 ++ t381 : List Int)).bind fun y392 => (if 0 ≤ (Int.tmod (wrap64 (a1_1)) (t381.length : Int)) then (if (Int.tmod (wrap64 (a1_1)) (t381.length : Int)) < (y392.length : Int) then ((some (y392.set ((Int.tmod (wrap64 (a1_1)) (t381.length : Int)) : Int).toNat a2 : List Int)).bind fun y395 => ((parolelaw04_open.f y395 (Int.tmod (wrap64 (a1_1)) (t381.length : Int))).bind fun bt396 => (if bt384.2 = 0 then ((paroleref04_Same.f k bt384.1 bt396.1).bind fun t401 => (if t401 = true then ((merkle_Root.f y395).bind fun t402 => ((parolelaw04_check.f t402 (y392.length : Int) (Int.tmod (wrap64 (a1_1)) (t381.length : Int)) a2 bt384.1).bind fun t403 => (if t403 = 0 then (some true) else (none)))) else (none))) else (none)))) else (none)) else (none))) else (none))))) = some r := H
    have A6 := Aside0.mk A60
    clear A60
    by_cases c7 : (t381.length : Int) = 0
    · rw [if_pos c7] at H
      exact absurd H (by simp)
    · rw [if_neg c7] at H
      have c7b0 : ((t381.length : Int) == 0) = false := beq_eq_false_iff_ne.mpr c7
      have c7b1 : ((t381.length : Int) != 0) = true := bne_iff_ne.mpr c7
      have c7b2 : ¬ (t381 = []) := fun h_ => c7 (by rw [h_]; rfl)
      replace H := Option.bind_eq_some_iff.mp H
      obtain ⟨⟨t384, t387⟩, A80, H⟩ := H
      replace H : ((some (([] : List Int) : List Int)).bind fun y389 => (if y389.length + t381.length < 17592186044416 then ((some (y389 ++ t381 : List Int)).bind fun y392 => (if 0 ≤ (Int.tmod (wrap64 (a1_1)) (t381.length : Int)) then (if (Int.tmod (wrap64 (a1_1)) (t381.length : Int)) < (y392.length : Int) then ((some (y392.set ((Int.tmod (wrap64 (a1_1)) (t381.length : Int)) : Int).toNat a2 : List Int)).bind fun y395 => ((parolelaw04_open.f y395 (Int.tmod (wrap64 (a1_1)) (t381.length : Int))).bind fun bt396 => (if t387 = 0 then ((paroleref04_Same.f k t384 bt396.1).bind fun t401 => (if t401 = true then ((merkle_Root.f y395).bind fun t402 => ((parolelaw04_check.f t402 (y392.length : Int) (Int.tmod (wrap64 (a1_1)) (t381.length : Int)) a2 t384).bind fun t403 => (if t403 = 0 then (some true) else (none)))) else (none))) else (none)))) else (none)) else (none))) else (none))) = some r := H
      have A8 := Aside0.mk A80
      clear A80
      obtain ⟨y389, hy389⟩ : ∃ y_ : List Int, y_ = (([] : List Int)) := ⟨_, rfl⟩
      replace H : (if y389.length + t381.length < 17592186044416 then ((some (y389 ++ t381 : List Int)).bind fun y392 => (if 0 ≤ (Int.tmod (wrap64 (a1_1)) (t381.length : Int)) then (if (Int.tmod (wrap64 (a1_1)) (t381.length : Int)) < (y392.length : Int) then ((some (y392.set ((Int.tmod (wrap64 (a1_1)) (t381.length : Int)) : Int).toNat a2 : List Int)).bind fun y395 => ((parolelaw04_open.f y395 (Int.tmod (wrap64 (a1_1)) (t381.length : Int))).bind fun bt396 => (if t387 = 0 then ((paroleref04_Same.f k t384 bt396.1).bind fun t401 => (if t401 = true then ((merkle_Root.f y395).bind fun t402 => ((parolelaw04_check.f t402 (y392.length : Int) (Int.tmod (wrap64 (a1_1)) (t381.length : Int)) a2 t384).bind fun t403 => (if t403 = 0 then (some true) else (none)))) else (none))) else (none)))) else (none)) else (none))) else (none)) = some r := by first | (rw [hy389]; with_reducible exact H) | (have H2_ := (Option.bind_some _ _).symm.trans H; rw [hy389]; with_reducible exact H2_) | (have H2_ := (Option.bind_some _ _).symm.trans H; with_reducible exact H2_) | with_reducible exact H | (rw [hy389]; exact H) | exact H
      have Ny389 := Aside0.mk hy389
      clear hy389
      by_cases c9 : y389.length + t381.length < 17592186044416
      · rw [if_pos c9] at H
        have LMc9 := Aside0.mk c9
        clear c9
        obtain ⟨y392, hy392⟩ : ∃ y_ : List Int, y_ = (y389 ++ t381) := ⟨_, rfl⟩
        replace H : (if 0 ≤ (Int.tmod (wrap64 (a1_1)) (t381.length : Int)) then (if (Int.tmod (wrap64 (a1_1)) (t381.length : Int)) < (y392.length : Int) then ((some (y392.set ((Int.tmod (wrap64 (a1_1)) (t381.length : Int)) : Int).toNat a2 : List Int)).bind fun y395 => ((parolelaw04_open.f y395 (Int.tmod (wrap64 (a1_1)) (t381.length : Int))).bind fun bt396 => (if t387 = 0 then ((paroleref04_Same.f k t384 bt396.1).bind fun t401 => (if t401 = true then ((merkle_Root.f y395).bind fun t402 => ((parolelaw04_check.f t402 (y392.length : Int) (Int.tmod (wrap64 (a1_1)) (t381.length : Int)) a2 t384).bind fun t403 => (if t403 = 0 then (some true) else (none)))) else (none))) else (none)))) else (none)) else (none)) = some r := by first | (rw [hy392]; with_reducible exact H) | (have H2_ := (Option.bind_some _ _).symm.trans H; rw [hy392]; with_reducible exact H2_) | (have H2_ := (Option.bind_some _ _).symm.trans H; with_reducible exact H2_) | with_reducible exact H | (rw [hy392]; exact H) | exact H
        have Ny392 := Aside0.mk hy392
        clear hy392
        obtain ⟨ji10, hji10⟩ : ∃ j_ : Int, (Int.tmod (wrap64 (a1_1)) (t381.length : Int)) = j_ := ⟨_, rfl⟩
        replace H : (if 0 ≤ (ji10) then (if (ji10) < (y392.length : Int) then ((some (y392.set ((ji10) : Int).toNat a2 : List Int)).bind fun y395 => ((parolelaw04_open.f y395 (ji10)).bind fun bt396 => (if t387 = 0 then ((paroleref04_Same.f k t384 bt396.1).bind fun t401 => (if t401 = true then ((merkle_Root.f y395).bind fun t402 => ((parolelaw04_check.f t402 (y392.length : Int) (ji10) a2 t384).bind fun t403 => (if t403 = 0 then (some true) else (none)))) else (none))) else (none)))) else (none)) else (none)) = some r := by first | (rw [hji10] at H; exact H) | (simp only [hji10] at H ⊢; exact H)
        (try rw [hji10] at A4)
        (try rw [hji10] at A6)
        (try rw [hji10] at A8)
        by_cases c11 : 0 ≤ (ji10)
        · rw [if_pos c11] at H
          have c11b0 : decide (0 ≤ (ji10)) = true := decide_eq_true c11
          clear c11
          by_cases c12 : (ji10) < (y392.length : Int)
          · rw [if_pos c12] at H
            have c12b0 : decide ((ji10) < (y392.length : Int)) = true := decide_eq_true c12
            clear c12
            obtain ⟨y395, hy395⟩ : ∃ y_ : List Int, y_ = (y392.set ((ji10) : Int).toNat a2) := ⟨_, rfl⟩
            replace H : ((parolelaw04_open.f y395 (ji10)).bind fun bt396 => (if t387 = 0 then ((paroleref04_Same.f k t384 bt396.1).bind fun t401 => (if t401 = true then ((merkle_Root.f y395).bind fun t402 => ((parolelaw04_check.f t402 (y392.length : Int) (ji10) a2 t384).bind fun t403 => (if t403 = 0 then (some true) else (none)))) else (none))) else (none))) = some r := by first | (rw [hy395]; with_reducible exact H) | (have H2_ := (Option.bind_some _ _).symm.trans H; rw [hy395]; with_reducible exact H2_) | (have H2_ := (Option.bind_some _ _).symm.trans H; with_reducible exact H2_) | with_reducible exact H | (rw [hy395]; exact H) | exact H
            have Ny395 := Aside0.mk hy395
            clear hy395
            replace H := Option.bind_eq_some_iff.mp H
            obtain ⟨⟨t396, t399⟩, A140, H⟩ := H
            replace H : (if t387 = 0 then ((paroleref04_Same.f k t384 t396).bind fun t401 => (if t401 = true then ((merkle_Root.f y395).bind fun t402 => ((parolelaw04_check.f t402 (y392.length : Int) (ji10) a2 t384).bind fun t403 => (if t403 = 0 then (some true) else (none)))) else (none))) else (none)) = some r := H
            have A14 := Aside0.mk A140
            clear A140
            by_cases c15 : t387 = 0
            · rw [if_pos c15] at H
              have c15b0 : (t387 == 0) = true := beq_iff_eq.mpr c15
              have c15b1 : (t387 != 0) = false := bne_eq_false_iff_eq.mpr c15
              clear c15
              replace H := Option.bind_eq_some_iff.mp H
              obtain ⟨t401, A160, H⟩ := H
              replace H : (if t401 = true then ((merkle_Root.f y395).bind fun t402 => ((parolelaw04_check.f t402 (y392.length : Int) (ji10) a2 t384).bind fun t403 => (if t403 = 0 then (some true) else (none)))) else (none)) = some r := H
              have A16 := Aside0.mk A160
              clear A160
              by_cases c17 : t401 = true
              · subst c17
                have H1 : ((merkle_Root.f y395).bind fun t402 => ((parolelaw04_check.f t402 (y392.length : Int) (ji10) a2 t384).bind fun t403 => (if t403 = 0 then (some true) else (none)))) = some r := by rw [if_pos rfl] at H; exact H
                clear H
                have H := H1
                clear H1
                replace H := Option.bind_eq_some_iff.mp H
                obtain ⟨t402, A180, H⟩ := H
                replace H : ((parolelaw04_check.f t402 (y392.length : Int) (ji10) a2 t384).bind fun t403 => (if t403 = 0 then (some true) else (none))) = some r := H
                have A18 := Aside0.mk A180
                clear A180
                replace H := Option.bind_eq_some_iff.mp H
                obtain ⟨t403, A190, H⟩ := H
                replace H : (if t403 = 0 then (some true) else (none)) = some r := H
                have A19 := Aside0.mk A190
                clear A190
                by_cases c20 : t403 = 0
                · rw [if_pos c20] at H
                  have c20b0 : (t403 == 0) = true := beq_iff_eq.mpr c20
                  have c20b1 : (t403 != 0) = false := bne_eq_false_iff_eq.mpr c20
                  clear c20
                  obtain rfl := Option.some.inj H
                  go_enter Try.func12, Try.ntmps12
                  try go_wp2_with (first | ((with_reducible refine gate_dst (N := 4) rfl ?_); (try (refine gate_guard (by rfl) ?_; dsimp only)); refine box_event ?hg (N := 4) ?hd (cs := #[.int .u16 a1_0, .int .u16 a1_1]) (t := 53) ?hr ?_; (case hd => rfl); (case hg => rfl); (case hr => first | (go_simp; done) | (go_simp; rfl)); intro gb379 hg w21 hbox hb; have n0_ := Aside0.mk (below_step (by repeat (first | (with_reducible first | exact HB.out | apply below_alloc | apply pw_below_drewN | apply below_drew1) | exact HB.out)) hb); have n1_ := Aside0.mk (hbox); have n2_ := Aside0.mk ((by rw [hg]; exact (below_size (by repeat (first | (with_reducible first | exact HB.out | apply below_alloc | apply pw_below_drewN | apply below_drew1) | exact HB.out))) : w.heap.size ≤ gb379)); have n3_ := Aside0.mk ((by rw [hg]; exact (below_size (by repeat (first | (with_reducible first | exact HB.out | apply below_alloc | apply pw_below_drewN | apply below_drew1) | exact HB.out))) : w.heap.size ≤ gb379)); clear HB; have HB := n0_; have BK379 := n1_; have GW379 := n2_; have GE379 := n3_; clear n0_ n1_ n2_ n3_; clear hb hbox hg) | ((with_reducible refine gate_callee (f := 31) rfl ?_); refine goesL_ (some 13) rfl rfl Try.func31 (by kernel_rfl) rfl #[] rfl (by (try simp only [List.map_toArray, List.map_cons, List.map_nil]); first | done | rfl | (simp only [List.length_drop, List.length_take]; rfl)) ?_; (with_reducible refine (parolelaw04_examples.calls k  true _ A4.out).mono ?_); rintro e w22 ⟨rfl, hb⟩; refine ⟨_, rfl, ?_⟩; have n0_ := Aside0.mk (blk_below (g := gb379) (o := .cells #[.int .u16 a1_0, .int .u16 a1_1] 53 (0, 0)) (by (with_reducible repeat (first | refine blk_drewN ?_ _ | refine blk_drew ?_ | refine blk_alloc ?_ _)); exact BK379.out) hb); have n1_ := Aside0.mk (below_step (by repeat (first | (with_reducible first | exact HB.out | apply below_alloc | apply pw_below_drewN | apply below_drew1 | refine below_set ?_ GE379.out) | exact HB.out)) hb); clear BK379; clear HB; have BK379 := n0_; have HB := n1_; clear n0_ n1_; (try clear hb); (try clear hb2); (try clear hk); (try clear hi); have hcz23_0 : w22.cell? ⟨gb379, 0, none⟩ = some (.int .u16 a1_0) := (blk_cell BK379.out 0).trans rfl; have hcz23_1 : w22.cell? ⟨gb379, 1, none⟩ = some (.int .u16 a1_1) := (blk_cell BK379.out 1).trans rfl; have hfz23_0 := blk_frozen BK379.out 0; have hfz23_1 := blk_frozen BK379.out 1) | ((with_reducible refine gate_callee (f := 32) rfl ?_); refine goesL_ (some 22) rfl rfl Try.func32 (by kernel_rfl) rfl #[.slice A0 l0.length c0, .int .i64 (wrap64 (1 + (wrap64 (Int.tmod a1_0 300))))] rfl (by (try simp only [List.map_toArray, List.map_cons, List.map_nil]); first | done | rfl | (simp only [List.length_drop, List.length_take]; rfl)) ?_; (with_reducible refine (paroleref04_Grown.calls k _ _ l0 (wrap64 (1 + (wrap64 (Int.tmod a1_0 300)))) t381 _ ?side1 ?side2 A6.out).mono ?_); (case side1 => repeat (first | exact (Kd.C_below HR0.out HB.out) | (with_reducible refine Kd.C_alloc ?_ _) | (with_reducible refine Kd.C_drewN ?_ _) | (with_reducible refine Kd.C_drew ?_))); (case side2 => exact HC0.out); rintro e w24 ⟨v382, rfl, ho0, hb⟩; refine ⟨_, rfl, ?_⟩; have n0_ := Aside0.mk (Kd.R_lower ho0 (below_size (by repeat (first | (with_reducible first | exact HB.out | apply below_alloc | apply pw_below_drewN | apply below_drew1 | refine below_set ?_ GE379.out) | exact HB.out)))); have n1_ := Aside0.mk (blk_below (g := gb379) (o := .cells #[.int .u16 a1_0, .int .u16 a1_1] 53 (0, 0)) (by (with_reducible repeat (first | refine blk_drewN ?_ _ | refine blk_drew ?_ | refine blk_alloc ?_ _)); exact BK379.out) hb); have n2_ := Aside0.mk (below_step (by repeat (first | (with_reducible first | exact HB.out | apply below_alloc | apply pw_below_drewN | apply below_drew1 | refine below_set ?_ GE379.out) | exact HB.out)) hb); clear BK379; clear HB; have HO383 := n0_; have BK379 := n1_; have HB := n2_; clear n0_ n1_ n2_; (try clear hb); (try clear hb2); (try clear hk); (try clear hi); (try clear ho0); have hcz25_0 : w24.cell? ⟨gb379, 0, none⟩ = some (.int .u16 a1_0) := (blk_cell BK379.out 0).trans rfl; have hcz25_1 : w24.cell? ⟨gb379, 1, none⟩ = some (.int .u16 a1_1) := (blk_cell BK379.out 1).trans rfl; have hfz25_0 := blk_frozen BK379.out 0; have hfz25_1 := blk_frozen BK379.out 1; obtain ⟨Ao26, co26, eo26⟩ := Kd.R_slice HO383.out; subst eo26) | ((with_reducible refine gate_callee (f := 34) rfl ?_); refine goesL_ (some 31) rfl rfl Try.func34 (by kernel_rfl) rfl #[.slice Ao26 t381.length co26, .int .i64 ji10] rfl (by (try simp only [List.map_toArray, List.map_cons, List.map_nil]); first | done | (simp only [hji10]; rfl) | rfl | (simp only [List.length_drop, List.length_take]; rfl)) ?_; (with_reducible refine (parolelaw04_open.calls _ _ t381 ji10 t384 t387 _ ?side1 ?side2 A8.out).mono ?_); (case side1 => repeat (first | exact (Kd.R_reads' HO383.out).2.2 | (with_reducible refine Kd.C_alloc ?_ _) | (with_reducible refine Kd.C_drewN ?_ _) | (with_reducible refine Kd.C_drew ?_))); (case side2 => exact (Kd.R_reads' HO383.out).2.1); rintro e w27 ⟨v385, rfl, ho0, hb⟩; refine ⟨_, rfl, ?_⟩; have n0_ := Aside0.mk (Kd.R_elder' (by (with_reducible repeat (first | apply Kd.R_alloc | apply Kd.R_drewN | apply Kd.R_drew)); exact HO383.out) (Kd.R_base ho0) hb); have n1_ := Aside0.mk (Kd.R_lower (Kd.R_new' ho0 (Kd.R_lt (by (with_reducible repeat (first | apply Kd.R_alloc | apply Kd.R_drewN | apply Kd.R_drew)); exact HO383.out))) (below_size (by repeat (first | (with_reducible first | exact HB.out | apply below_alloc | apply pw_below_drewN | apply below_drew1 | refine below_set ?_ GE379.out) | exact HB.out)))); have n2_ := Aside0.mk (blk_below (g := gb379) (o := .cells #[.int .u16 a1_0, .int .u16 a1_1] 53 (0, 0)) (by (with_reducible repeat (first | refine blk_drewN ?_ _ | refine blk_drew ?_ | refine blk_alloc ?_ _)); exact BK379.out) hb); have n3_ := Aside0.mk (below_step (by repeat (first | (with_reducible first | exact HB.out | apply below_alloc | apply pw_below_drewN | apply below_drew1 | refine below_set ?_ GE379.out) | exact HB.out)) hb); clear HO383; clear BK379; clear HB; have HO383 := n0_; have HO386 := n1_; have BK379 := n2_; have HB := n3_; clear n0_ n1_ n2_ n3_; (try clear hb); (try clear hb2); (try clear hk); (try clear hi); (try clear ho0)) | ((with_reducible refine gate_dst (N := 10) rfl ?_); (try (refine gate_guard (by rfl) ?_; dsimp only)); refine box_event ?hg (N := 10) ?hd (cs := #[.slice none 0 0, .int .i64 0]) (t := 46) ?hr ?_; (case hd => rfl); (case hg => rfl); (case hr => first | (go_simp; done) | (go_simp; rfl)); intro gb388 hg w28 hbox hb; have n0_ := Aside0.mk (Kd.R_below (by (with_reducible repeat (first | apply Kd.R_alloc | apply Kd.R_drewN | apply Kd.R_drew)); exact HO383.out) hb); have n1_ := Aside0.mk (Kd.R_below (by (with_reducible repeat (first | apply Kd.R_alloc | apply Kd.R_drewN | apply Kd.R_drew)); exact HO386.out) hb); have n2_ := Aside0.mk (blk_below (g := gb379) (o := .cells #[.int .u16 a1_0, .int .u16 a1_1] 53 (0, 0)) (by (with_reducible repeat (first | refine blk_drewN ?_ _ | refine blk_drew ?_ | refine blk_alloc ?_ _)); exact BK379.out) hb); have n3_ := Aside0.mk (below_step (by repeat (first | (with_reducible first | exact HB.out | apply below_alloc | apply pw_below_drewN | apply below_drew1 | refine below_set ?_ GE379.out) | exact HB.out)) hb); have n4_ := Aside0.mk (hbox); have n5_ := Aside0.mk ((by rw [hg]; exact (below_size (by repeat (first | (with_reducible first | exact HB.out | apply below_alloc | apply pw_below_drewN | apply below_drew1 | refine below_set ?_ GE379.out) | exact HB.out))) : w.heap.size ≤ gb388)); have n6_ := Aside0.mk ((by rw [hg]; exact (below_size (by repeat (first | (with_reducible first | exact HB.out | apply below_alloc | apply pw_below_drewN | apply below_drew1 | refine below_set ?_ GE379.out) | exact HB.out))) : w.heap.size ≤ gb388)); have n7_ := Aside0.mk ((by rw [hg]; exact Nat.ne_of_lt (blk_lt (g := gb379) (o := .cells #[.int .u16 a1_0, .int .u16 a1_1] 53 (0, 0)) (by (with_reducible repeat (first | refine blk_drewN ?_ _ | refine blk_drew ?_ | refine blk_alloc ?_ _)); exact BK379.out)) : gb379 ≠ gb388)); have n8_ := Aside0.mk ((by rw [hg]; exact Nat.ne_of_gt (blk_lt (g := gb379) (o := .cells #[.int .u16 a1_0, .int .u16 a1_1] 53 (0, 0)) (by (with_reducible repeat (first | refine blk_drewN ?_ _ | refine blk_drew ?_ | refine blk_alloc ?_ _)); exact BK379.out)) : gb388 ≠ gb379)); clear HO383; clear HO386; clear BK379; clear HB; have HO383 := n0_; have HO386 := n1_; have BK379 := n2_; have HB := n3_; have BK388 := n4_; have GW388 := n5_; have GE388 := n6_; have NB379_388 := n7_; have NB388_379 := n8_; clear n0_ n1_ n2_ n3_ n4_ n5_ n6_ n7_ n8_; clear hb hbox hg; obtain ⟨Ao29, co29, eo29⟩ := Kd.R_slice HO386.out; subst eo29; have hnb30 := NB388_379.out; have hnc30 := NB379_388.out; have hcz31_0 : w28.cell? ⟨gb388, 0, none⟩ = some (.slice none 0 0) := (blk_cell BK388.out 0).trans rfl; have hcz31_1 : w28.cell? ⟨gb388, 1, none⟩ = some (.int .i64 0) := (blk_cell BK388.out 1).trans rfl; have hfz31_0 := blk_frozen BK388.out 0; have hfz31_1 := blk_frozen BK388.out 1) | ((with_reducible refine gate_dst (N := 32) rfl ?_); (try (refine gate_guard (by rfl) ?_; dsimp only)); refine Kd.R_lit (Kd.int .u64) _ 22 ?hg (N := 32) ?hd (xs := ([] : List Int)) (inner := []) (ok := fun _ => True) (okp := fun _ => True) ?hr ?hp (fun _ hk => hk) trivial (Below.refl _ _) (Nat.le_refl _) (by simp) ?_; (case hd => rfl); (case hg => rfl); (case hr => first | (go_simp; done) | (go_simp; rfl)); (case hp => exact (Reps.none _ _)); intro v390 w32 ho33 hb hg_ hnew_; clear hg_ hnew_; (first | rw [← Ny389.out] at ho33 | (simp only [Int.reduceToNat] at ho33; rw [← Ny389.out] at ho33)); have n0_ := Aside0.mk (Kd.R_elder' (by (with_reducible repeat (first | apply Kd.R_alloc | apply Kd.R_drewN | apply Kd.R_drew)); exact (Kd.R_mono (Kd.R_far (p := ⟨gb388, 1, none⟩) (Kd.R_far (p := ⟨gb388, 0, none⟩) (Kd.R_types HO383.out BK388.out (by decide)) (fun _ hk => by first | exact hk.2 | exact hk | exact ⟨hk.2, hk.1⟩ | simp_all) (.slice Ao29 t384.length co29)) (fun _ hk => by first | exact hk.2 | exact hk | exact ⟨hk.2, hk.1⟩ | simp_all) (.int .i64 t387)) (fun _ h_ => h_.1))) (Kd.R_base ho33) hb); have n1_ := Aside0.mk (Kd.R_elder' (by (with_reducible repeat (first | apply Kd.R_alloc | apply Kd.R_drewN | apply Kd.R_drew)); exact (Kd.R_mono (Kd.R_far (p := ⟨gb388, 1, none⟩) (Kd.R_far (p := ⟨gb388, 0, none⟩) (Kd.R_types HO386.out BK388.out (by decide)) (fun _ hk => by first | exact hk.2 | exact hk | exact ⟨hk.2, hk.1⟩ | simp_all) (.slice Ao29 t384.length co29)) (fun _ hk => by first | exact hk.2 | exact hk | exact ⟨hk.2, hk.1⟩ | simp_all) (.int .i64 t387)) (fun _ h_ => h_.1))) (Kd.R_base ho33) hb); have n2_ := Aside0.mk (Kd.R_lower (Kd.R_new' (Kd.R_new' ho33 (Kd.R_lt (by (with_reducible repeat (first | apply Kd.R_alloc | apply Kd.R_drewN | apply Kd.R_drew)); exact (Kd.R_mono (Kd.R_far (p := ⟨gb388, 1, none⟩) (Kd.R_far (p := ⟨gb388, 0, none⟩) (Kd.R_types HO383.out BK388.out (by decide)) (fun _ hk => by first | exact hk.2 | exact hk | exact ⟨hk.2, hk.1⟩ | simp_all) (.slice Ao29 t384.length co29)) (fun _ hk => by first | exact hk.2 | exact hk | exact ⟨hk.2, hk.1⟩ | simp_all) (.int .i64 t387)) (fun _ h_ => h_.1))))) (Kd.R_lt (by (with_reducible repeat (first | apply Kd.R_alloc | apply Kd.R_drewN | apply Kd.R_drew)); exact (Kd.R_mono (Kd.R_far (p := ⟨gb388, 1, none⟩) (Kd.R_far (p := ⟨gb388, 0, none⟩) (Kd.R_types HO386.out BK388.out (by decide)) (fun _ hk => by first | exact hk.2 | exact hk | exact ⟨hk.2, hk.1⟩ | simp_all) (.slice Ao29 t384.length co29)) (fun _ hk => by first | exact hk.2 | exact hk | exact ⟨hk.2, hk.1⟩ | simp_all) (.int .i64 t387)) (fun _ h_ => h_.1))))) (below_size (by repeat (first | (with_reducible first | exact HB.out | apply below_alloc | apply pw_below_drewN | apply below_drew1 | refine below_set ?_ GE379.out | refine below_set ?_ GE388.out) | exact HB.out)))); have n3_ := Aside0.mk (blk_below (g := gb379) (o := .cells #[.int .u16 a1_0, .int .u16 a1_1] 53 (0, 0)) (by (with_reducible repeat (first | refine blk_drewN ?_ _ | refine blk_drew ?_ | refine blk_alloc ?_ _)); refine blk_far ?_ NB379_388.out _; (with_reducible repeat (first | refine blk_drewN ?_ _ | refine blk_drew ?_ | refine blk_alloc ?_ _)); refine blk_far ?_ NB379_388.out _; (with_reducible repeat (first | refine blk_drewN ?_ _ | refine blk_drew ?_ | refine blk_alloc ?_ _)); exact BK379.out) hb); have n4_ := Aside0.mk (blk_below (g := gb388) (o := .cells #[.slice Ao29 t384.length co29, .int .i64 t387] 46 (0, 0)) (by (with_reducible repeat (first | refine blk_drewN ?_ _ | refine blk_drew ?_ | refine blk_alloc ?_ _)); refine blk_put (cs := #[.slice Ao29 t384.length co29, .int .i64 0]) ?_ 1 _ rfl; (with_reducible repeat (first | refine blk_drewN ?_ _ | refine blk_drew ?_ | refine blk_alloc ?_ _)); refine blk_put (cs := #[.slice none 0 0, .int .i64 0]) ?_ 0 _ rfl; (with_reducible repeat (first | refine blk_drewN ?_ _ | refine blk_drew ?_ | refine blk_alloc ?_ _)); exact BK388.out) hb); have n5_ := Aside0.mk (below_step (by repeat (first | (with_reducible first | exact HB.out | apply below_alloc | apply pw_below_drewN | apply below_drew1 | refine below_set ?_ GE379.out | refine below_set ?_ GE388.out) | exact HB.out)) hb); clear HO383; clear HO386; clear BK379; clear BK388; clear HB; have HO383 := n0_; have HO386 := n1_; have HO391 := n2_; have BK379 := n3_; have BK388 := n4_; have HB := n5_; clear n0_ n1_ n2_ n3_ n4_ n5_; clear hb ho33) | ((with_reducible refine gate_builtin (b := .append) (xs := #[.tmp 32, .tmp 33]) rfl ?_); (try (refine gate_guard (by rfl) ?_; dsimp only)); at_builtin; refine Kd.R_append_rows (Kd.int .u64) (w0 := w) w.heap.size rfl (.tmp 32) (.tmp 33) 41 22 (.int .u64 0) 8 rfl Try.underlying41 info22 rfl (by decide) (by omega) v390 y389 t381 _ _ _ (fun k_ => some k_ ≠ (.slice Ao26 t381.length co26 : Value).ownBlock ∧ some k_ ≠ (.slice Ao29 t384.length co29 : Value).ownBlock) (fun _ => False) rfl rfl ?aO ?aR (fun _ _ h => h) (fun _ h => h.elim) ?aF ?aB ?aS ?aL ?_; (case aR => repeat (first | exact (Kd.R_reads' HO383.out).2.2 | (with_reducible refine Kd.C_alloc ?_ _) | (with_reducible refine Kd.C_drewN ?_ _) | (with_reducible refine Kd.C_drew ?_))); (case aB => exact (by repeat (first | (with_reducible first | exact HB.out | apply below_alloc | apply pw_below_drewN | apply below_drew1 | refine below_set ?_ GE379.out | refine below_set ?_ GE388.out) | exact HB.out))); (case aF => exact (fun k_ hk => ⟨Kd.fresh' (Kd.R_lt (by (with_reducible repeat (first | apply Kd.R_alloc | apply Kd.R_drewN | apply Kd.R_drew)); exact HO383.out)) k_ hk, Kd.fresh' (Kd.R_lt (by (with_reducible repeat (first | apply Kd.R_alloc | apply Kd.R_drewN | apply Kd.R_drew)); exact HO386.out)) k_ hk⟩)); (case aO => exact (by (with_reducible repeat (first | apply Kd.R_alloc | apply Kd.R_drewN | apply Kd.R_drew)); exact Kd.R_mono HO391.out (fun _ hk => by first | exact ⟨hk.1.2, hk.2⟩ | exact hk | exact ⟨hk.2, hk.1⟩ | simp_all))); (case aS => exact (below_size (by repeat (first | (with_reducible first | exact HB.out | apply below_alloc | apply pw_below_drewN | apply below_drew1 | refine below_set ?_ GE379.out | refine below_set ?_ GE388.out) | exact HB.out)))); (case aL => have := LMc9.out; omega); intro v393 w34 ho hb hg hat; rw [← Ny392.out] at ho; have n0_ := Aside0.mk (blk_grown (g := gb379) (o := .cells #[.int .u16 a1_0, .int .u16 a1_1] 53 (0, 0)) (by (with_reducible repeat (first | refine blk_drewN ?_ _ | refine blk_drew ?_ | refine blk_alloc ?_ _)); exact BK379.out) hg (Kd.R_ne HO391.out BK379.out (by decide))); have n1_ := Aside0.mk (Kd.R_after (ok := (fun k_ => some k_ ≠ (.slice Ao29 t384.length co29 : Value).ownBlock)) (by (with_reducible repeat (first | apply Kd.R_alloc | apply Kd.R_drewN | apply Kd.R_drew)); exact Kd.R_mono HO383.out (fun _ hk => by first | exact ⟨hk.1.2, hk.2⟩ | exact hk | exact ⟨hk.2, hk.1⟩ | simp_all)) hg hat); have n2_ := Aside0.mk (Kd.R_after (ok := (fun k_ => some k_ ≠ (.slice Ao26 t381.length co26 : Value).ownBlock)) (by (with_reducible repeat (first | apply Kd.R_alloc | apply Kd.R_drewN | apply Kd.R_drew)); exact Kd.R_mono HO386.out (fun _ hk => by first | exact ⟨hk.1.2, hk.2⟩ | exact hk | exact ⟨hk.2, hk.1⟩ | simp_all)) hg hat); have n3_ := Aside0.mk (blk_grown (g := gb388) (o := .cells #[.slice Ao29 t384.length co29, .int .i64 t387] 46 (0, 0)) (by (with_reducible repeat (first | refine blk_drewN ?_ _ | refine blk_drew ?_ | refine blk_alloc ?_ _)); exact BK388.out) hg (Kd.R_ne HO391.out BK388.out (by decide))); have n4_ := Aside0.mk (hb); have n5_ := Aside0.mk (ho); clear BK379; clear HO383; clear HO386; clear BK388; clear HB; clear HO391; have BK379 := n0_; have HO383 := n1_; have HO386 := n2_; have BK388 := n3_; have HB := n4_; have HO394 := n5_; clear n0_ n1_ n2_ n3_ n4_ n5_; clear ho hb hg hat; have p13 : 0 ≤ ((ji10) : Int) := of_decide_eq_true (by first | (with_reducible assumption) | assumption); have q13 : ((ji10) : Int) < ((y392.length : Int) : Int) := of_decide_eq_true (by first | (with_reducible assumption) | assumption); obtain ⟨go13, co13, eo13, gb13, gl13, cl13, HG13⟩ := Kd.R_form HO394.out (by omega); (first | cases eo13 | (injection eo13 with ea_ en_ ec_; (first | subst ea_ | (injection ea_ with ea_; subst ea_)); subst ec_; clear en_)); have GB13 := Aside0.mk gb13; have GG13 := Aside0.mk HG13; clear gb13 gl13 HG13; obtain ⟨hx13_0, hf13_0⟩ := Kd.R_celln 0 HO394.out ((ji10) : Int) p13 q13; replace p13 := eq_true p13; replace q13 := eq_true q13; obtain ⟨hy35_, hz35_⟩ := Kd.R_celln 0 HO394.out ((ji10) : Int) (of_decide_eq_true (by first | (with_reducible assumption) | assumption)) (of_decide_eq_true (by first | (with_reducible assumption) | assumption)); have HP35 := Kd.R_putg HO394.out ((ji10) : Int) a2) | ((with_reducible refine gate_store (t := 22) (p := 38) rfl ?_); refine store_event (t := 22) (p := 38) (v := ?vo_w36) (w1 := (w34.setCell ⟨go13, ((ji10) : Int).toNat, none⟩ (.int .u64 a2))) ?hg ?ho ?hn ?hr ?_; (case ho => rfl); (case hg => rfl); (case hn => rfl); (case hr => first | (go_simp; done) | (go_simp; rfl)); intro w36 hw; have hg : w34.grownBy w36 (some go13) := (by rw [hw]; exact HP35.2); have hp_ : Kd.R (Kd.int .u64) 22 w36 w.heap.size (fun k_ => some k_ ≠ (.slice Ao26 t381.length co26 : Value).ownBlock ∧ some k_ ≠ (.slice Ao29 t384.length co29 : Value).ownBlock) (.slice (some ⟨go13, 0, none⟩) y392.length co13) y395 := (by rw [hw, Ny395.out]; exact HP35.1); clear HP35; have n0_ := Aside0.mk (blk_grown (g := gb379) (o := .cells #[.int .u16 a1_0, .int .u16 a1_1] 53 (0, 0)) (by (with_reducible repeat (first | refine blk_drewN ?_ _ | refine blk_drew ?_ | refine blk_alloc ?_ _)); exact BK379.out) hg (Kd.R_ne HO394.out BK379.out (by decide))); have n1_ := Aside0.mk (Kd.R_after (v := (.slice (some ⟨go13, 0, none⟩) y392.length co13)) (v1 := (.slice (some ⟨go13, 0, none⟩) y392.length co13)) (ok := (fun k_ => some k_ ≠ (.slice Ao29 t384.length co29 : Value).ownBlock)) (by (with_reducible repeat (first | apply Kd.R_alloc | apply Kd.R_drewN | apply Kd.R_drew)); exact HO383.out) hg (.inl rfl)); have n2_ := Aside0.mk (Kd.R_after (v := (.slice (some ⟨go13, 0, none⟩) y392.length co13)) (v1 := (.slice (some ⟨go13, 0, none⟩) y392.length co13)) (ok := (fun k_ => some k_ ≠ (.slice Ao26 t381.length co26 : Value).ownBlock)) (by (with_reducible repeat (first | apply Kd.R_alloc | apply Kd.R_drewN | apply Kd.R_drew)); exact HO386.out) hg (.inl rfl)); have n3_ := Aside0.mk (blk_grown (g := gb388) (o := .cells #[.slice Ao29 t384.length co29, .int .i64 t387] 46 (0, 0)) (by (with_reducible repeat (first | refine blk_drewN ?_ _ | refine blk_drew ?_ | refine blk_alloc ?_ _)); exact BK388.out) hg (Kd.R_ne HO394.out BK388.out (by decide))); have n4_ := Aside0.mk (hp_); have n5_ := Aside0.mk ((by rw [hw]; exact below_set (HB.out) GB13.out : Below w.heap.size w w36)); clear BK379; clear HO383; clear HO386; clear BK388; clear HO394; clear HB; have BK379 := n0_; have HO383 := n1_; have HO386 := n2_; have BK388 := n3_; have HO394 := n4_; have HB := n5_; clear n0_ n1_ n2_ n3_ n4_ n5_; clear hg hw hp_) | ((with_reducible refine gate_callee (f := 34) rfl ?_); refine goesL_ (some 41) rfl rfl Try.func34 (by kernel_rfl) rfl #[.slice (some ⟨go13, 0, none⟩) y395.length co13, .int .i64 ji10] rfl (by (try simp only [List.map_toArray, List.map_cons, List.map_nil]); first | done | (rw [show y395.length = y392.length from (Kd.R_reads' HO394.out).1.symm] <;> rfl) | (simp only [hji10]; rfl) | rfl | (simp only [List.length_drop, List.length_take]; rfl)) ?_; (with_reducible refine (parolelaw04_open.calls _ _ y395 ji10 t396 t399 _ ?side1 ?side2 A14.out).mono ?_); (case side1 => repeat (first | exact (Kd.R_reads' HO394.out).2.2 | (with_reducible refine Kd.C_alloc ?_ _) | (with_reducible refine Kd.C_drewN ?_ _) | (with_reducible refine Kd.C_drew ?_))); (case side2 => rw [show y395.length = y392.length from (Kd.R_reads' HO394.out).1.symm]; exact (Kd.R_reads' HO394.out).2.1); rintro e w37 ⟨v397, rfl, ho0, hb⟩; refine ⟨_, rfl, ?_⟩; have n0_ := Aside0.mk (Kd.R_elder' (by (with_reducible repeat (first | apply Kd.R_alloc | apply Kd.R_drewN | apply Kd.R_drew)); exact HO383.out) (Kd.R_base ho0) hb); have n1_ := Aside0.mk (Kd.R_elder' (by (with_reducible repeat (first | apply Kd.R_alloc | apply Kd.R_drewN | apply Kd.R_drew)); exact HO386.out) (Kd.R_base ho0) hb); have n2_ := Aside0.mk (Kd.R_elder' (by (with_reducible repeat (first | apply Kd.R_alloc | apply Kd.R_drewN | apply Kd.R_drew)); exact HO394.out) (Kd.R_base ho0) hb); have n3_ := Aside0.mk (Kd.R_lower (Kd.R_new' (Kd.R_new' (Kd.R_new' ho0 (Kd.R_lt (by (with_reducible repeat (first | apply Kd.R_alloc | apply Kd.R_drewN | apply Kd.R_drew)); exact HO383.out))) (Kd.R_lt (by (with_reducible repeat (first | apply Kd.R_alloc | apply Kd.R_drewN | apply Kd.R_drew)); exact HO386.out))) (Kd.R_lt (by (with_reducible repeat (first | apply Kd.R_alloc | apply Kd.R_drewN | apply Kd.R_drew)); exact HO394.out))) (below_size (by repeat (first | (with_reducible first | exact HB.out | apply below_alloc | apply pw_below_drewN | apply below_drew1 | refine below_set ?_ GE379.out | refine below_set ?_ GE388.out) | exact HB.out)))); have n4_ := Aside0.mk (blk_below (g := gb379) (o := .cells #[.int .u16 a1_0, .int .u16 a1_1] 53 (0, 0)) (by (with_reducible repeat (first | refine blk_drewN ?_ _ | refine blk_drew ?_ | refine blk_alloc ?_ _)); exact BK379.out) hb); have n5_ := Aside0.mk (blk_below (g := gb388) (o := .cells #[.slice Ao29 t384.length co29, .int .i64 t387] 46 (0, 0)) (by (with_reducible repeat (first | refine blk_drewN ?_ _ | refine blk_drew ?_ | refine blk_alloc ?_ _)); exact BK388.out) hb); have n6_ := Aside0.mk (below_step (by repeat (first | (with_reducible first | exact HB.out | apply below_alloc | apply pw_below_drewN | apply below_drew1 | refine below_set ?_ GE379.out | refine below_set ?_ GE388.out) | exact HB.out)) hb); clear HO383; clear HO386; clear HO394; clear BK379; clear BK388; clear HB; have HO383 := n0_; have HO386 := n1_; have HO394 := n2_; have HO398 := n3_; have BK379 := n4_; have BK388 := n5_; have HB := n6_; clear n0_ n1_ n2_ n3_ n4_ n5_ n6_; (try clear hb); (try clear hb2); (try clear hk); (try clear hi); (try clear ho0)) | ((with_reducible refine gate_dst (N := 12) rfl ?_); (try (refine gate_guard (by rfl) ?_; dsimp only)); refine box_event ?hg (N := 12) ?hd (cs := #[.slice none 0 0, .int .i64 0]) (t := 46) ?hr ?_; (case hd => rfl); (case hg => rfl); (case hr => first | (go_simp; done) | (go_simp; rfl)); intro gb400 hg w38 hbox hb; have n0_ := Aside0.mk (Kd.R_below (by (with_reducible repeat (first | apply Kd.R_alloc | apply Kd.R_drewN | apply Kd.R_drew)); exact HO383.out) hb); have n1_ := Aside0.mk (Kd.R_below (by (with_reducible repeat (first | apply Kd.R_alloc | apply Kd.R_drewN | apply Kd.R_drew)); exact HO386.out) hb); have n2_ := Aside0.mk (Kd.R_below (by (with_reducible repeat (first | apply Kd.R_alloc | apply Kd.R_drewN | apply Kd.R_drew)); exact HO394.out) hb); have n3_ := Aside0.mk (Kd.R_below (by (with_reducible repeat (first | apply Kd.R_alloc | apply Kd.R_drewN | apply Kd.R_drew)); exact HO398.out) hb); have n4_ := Aside0.mk (blk_below (g := gb379) (o := .cells #[.int .u16 a1_0, .int .u16 a1_1] 53 (0, 0)) (by (with_reducible repeat (first | refine blk_drewN ?_ _ | refine blk_drew ?_ | refine blk_alloc ?_ _)); exact BK379.out) hb); have n5_ := Aside0.mk (blk_below (g := gb388) (o := .cells #[.slice Ao29 t384.length co29, .int .i64 t387] 46 (0, 0)) (by (with_reducible repeat (first | refine blk_drewN ?_ _ | refine blk_drew ?_ | refine blk_alloc ?_ _)); exact BK388.out) hb); have n6_ := Aside0.mk (below_step (by repeat (first | (with_reducible first | exact HB.out | apply below_alloc | apply pw_below_drewN | apply below_drew1 | refine below_set ?_ GE379.out | refine below_set ?_ GE388.out) | exact HB.out)) hb); have n7_ := Aside0.mk (hbox); have n8_ := Aside0.mk ((by rw [hg]; exact (below_size (by repeat (first | (with_reducible first | exact HB.out | apply below_alloc | apply pw_below_drewN | apply below_drew1 | refine below_set ?_ GE379.out | refine below_set ?_ GE388.out) | exact HB.out))) : w.heap.size ≤ gb400)); have n9_ := Aside0.mk ((by rw [hg]; exact (below_size (by repeat (first | (with_reducible first | exact HB.out | apply below_alloc | apply pw_below_drewN | apply below_drew1 | refine below_set ?_ GE379.out | refine below_set ?_ GE388.out) | exact HB.out))) : w.heap.size ≤ gb400)); have n10_ := Aside0.mk ((by rw [hg]; exact Nat.ne_of_lt (blk_lt (g := gb379) (o := .cells #[.int .u16 a1_0, .int .u16 a1_1] 53 (0, 0)) (by (with_reducible repeat (first | refine blk_drewN ?_ _ | refine blk_drew ?_ | refine blk_alloc ?_ _)); exact BK379.out)) : gb379 ≠ gb400)); have n11_ := Aside0.mk ((by rw [hg]; exact Nat.ne_of_gt (blk_lt (g := gb379) (o := .cells #[.int .u16 a1_0, .int .u16 a1_1] 53 (0, 0)) (by (with_reducible repeat (first | refine blk_drewN ?_ _ | refine blk_drew ?_ | refine blk_alloc ?_ _)); exact BK379.out)) : gb400 ≠ gb379)); have n12_ := Aside0.mk ((by rw [hg]; exact Nat.ne_of_lt (blk_lt (g := gb388) (o := .cells #[.slice Ao29 t384.length co29, .int .i64 t387] 46 (0, 0)) (by (with_reducible repeat (first | refine blk_drewN ?_ _ | refine blk_drew ?_ | refine blk_alloc ?_ _)); exact BK388.out)) : gb388 ≠ gb400)); have n13_ := Aside0.mk ((by rw [hg]; exact Nat.ne_of_gt (blk_lt (g := gb388) (o := .cells #[.slice Ao29 t384.length co29, .int .i64 t387] 46 (0, 0)) (by (with_reducible repeat (first | refine blk_drewN ?_ _ | refine blk_drew ?_ | refine blk_alloc ?_ _)); exact BK388.out)) : gb400 ≠ gb388)); clear HO383; clear HO386; clear HO394; clear HO398; clear BK379; clear BK388; clear HB; have HO383 := n0_; have HO386 := n1_; have HO394 := n2_; have HO398 := n3_; have BK379 := n4_; have BK388 := n5_; have HB := n6_; have BK400 := n7_; have GW400 := n8_; have GE400 := n9_; have NB379_400 := n10_; have NB400_379 := n11_; have NB388_400 := n12_; have NB400_388 := n13_; clear n0_ n1_ n2_ n3_ n4_ n5_ n6_ n7_ n8_ n9_ n10_ n11_ n12_ n13_; clear hb hbox hg; obtain ⟨Ao39, co39, eo39⟩ := Kd.R_slice HO398.out; subst eo39; have hnb40 := NB400_379.out; have hnc40 := NB379_400.out; have hnb41 := NB400_388.out; have hnc41 := NB388_400.out; have hcz42_0 : w38.cell? ⟨gb400, 0, none⟩ = some (.slice none 0 0) := (blk_cell BK400.out 0).trans rfl; have hcz42_1 : w38.cell? ⟨gb400, 1, none⟩ = some (.int .i64 0) := (blk_cell BK400.out 1).trans rfl; have hfz42_0 := blk_frozen BK400.out 0; have hfz42_1 := blk_frozen BK400.out 1))
                  have n0_ : Aside0 (Kd.R (Kd.int .u64) 22 ((w38.setCell ⟨gb400, 0, none⟩ (.slice Ao39 t396.length co39)).setCell ⟨gb400, 1, none⟩ (.int .i64 t399)) w.heap.size (fun k_ => some k_ ≠ (.slice Ao29 t384.length co29 : Value).ownBlock ∧ some k_ ≠ (.slice (some ⟨go13, 0, none⟩) y392.length co13 : Value).ownBlock ∧ some k_ ≠ (.slice Ao39 t396.length co39 : Value).ownBlock) (.slice Ao26 t381.length co26) t381) := ⟨by (with_reducible repeat (first | apply Kd.R_alloc | apply Kd.R_drewN | apply Kd.R_drew)); exact Kd.R_mono (Kd.R_far (p := ⟨gb400, 1, none⟩) (Kd.R_far (p := ⟨gb400, 0, none⟩) (Kd.R_types HO383.out BK400.out (by decide)) (fun _ hk => by first | exact hk.2 | exact hk | exact ⟨hk.2, hk.1⟩ | simp_all) (.slice Ao39 t396.length co39)) (fun _ hk => by first | exact hk.2 | exact hk | exact ⟨hk.2, hk.1⟩ | simp_all) (.int .i64 t399)) (fun _ hk => ⟨hk.1.1.1, ⟨hk.1.1.2, hk.1.2⟩⟩)⟩
                  have n1_ : Aside0 (Kd.R (Kd.int .u64) 22 ((w38.setCell ⟨gb400, 0, none⟩ (.slice Ao39 t396.length co39)).setCell ⟨gb400, 1, none⟩ (.int .i64 t399)) w.heap.size (fun k_ => some k_ ≠ (.slice Ao26 t381.length co26 : Value).ownBlock ∧ some k_ ≠ (.slice (some ⟨go13, 0, none⟩) y392.length co13 : Value).ownBlock ∧ some k_ ≠ (.slice Ao39 t396.length co39 : Value).ownBlock) (.slice Ao29 t384.length co29) t384) := ⟨by (with_reducible repeat (first | apply Kd.R_alloc | apply Kd.R_drewN | apply Kd.R_drew)); exact Kd.R_mono (Kd.R_far (p := ⟨gb400, 1, none⟩) (Kd.R_far (p := ⟨gb400, 0, none⟩) (Kd.R_types HO386.out BK400.out (by decide)) (fun _ hk => by first | exact hk.2 | exact hk | exact ⟨hk.2, hk.1⟩ | simp_all) (.slice Ao39 t396.length co39)) (fun _ hk => by first | exact hk.2 | exact hk | exact ⟨hk.2, hk.1⟩ | simp_all) (.int .i64 t399)) (fun _ hk => ⟨hk.1.1.1, ⟨hk.1.1.2, hk.1.2⟩⟩)⟩
                  have n2_ : Aside0 (Kd.R (Kd.int .u64) 22 ((w38.setCell ⟨gb400, 0, none⟩ (.slice Ao39 t396.length co39)).setCell ⟨gb400, 1, none⟩ (.int .i64 t399)) w.heap.size (fun k_ => some k_ ≠ (.slice Ao26 t381.length co26 : Value).ownBlock ∧ some k_ ≠ (.slice Ao29 t384.length co29 : Value).ownBlock ∧ some k_ ≠ (.slice Ao39 t396.length co39 : Value).ownBlock) (.slice (some ⟨go13, 0, none⟩) y392.length co13) y395) := ⟨by (with_reducible repeat (first | apply Kd.R_alloc | apply Kd.R_drewN | apply Kd.R_drew)); exact Kd.R_mono (Kd.R_far (p := ⟨gb400, 1, none⟩) (Kd.R_far (p := ⟨gb400, 0, none⟩) (Kd.R_types HO394.out BK400.out (by decide)) (fun _ hk => by first | exact hk.2 | exact hk | exact ⟨hk.2, hk.1⟩ | simp_all) (.slice Ao39 t396.length co39)) (fun _ hk => by first | exact hk.2 | exact hk | exact ⟨hk.2, hk.1⟩ | simp_all) (.int .i64 t399)) (fun _ hk => ⟨hk.1.1.1, ⟨hk.1.1.2, hk.1.2⟩⟩)⟩
                  have n3_ : Aside0 (Kd.R (Kd.int .u64) 22 ((w38.setCell ⟨gb400, 0, none⟩ (.slice Ao39 t396.length co39)).setCell ⟨gb400, 1, none⟩ (.int .i64 t399)) w.heap.size (fun k_ => some k_ ≠ (.slice Ao26 t381.length co26 : Value).ownBlock ∧ some k_ ≠ (.slice Ao29 t384.length co29 : Value).ownBlock ∧ some k_ ≠ (.slice (some ⟨go13, 0, none⟩) y392.length co13 : Value).ownBlock) (.slice Ao39 t396.length co39) t396) := ⟨by (with_reducible repeat (first | apply Kd.R_alloc | apply Kd.R_drewN | apply Kd.R_drew)); exact Kd.R_mono (Kd.R_far (p := ⟨gb400, 1, none⟩) (Kd.R_far (p := ⟨gb400, 0, none⟩) (Kd.R_types HO398.out BK400.out (by decide)) (fun _ hk => by first | exact hk.2 | exact hk | exact ⟨hk.2, hk.1⟩ | simp_all) (.slice Ao39 t396.length co39)) (fun _ hk => by first | exact hk.2 | exact hk | exact ⟨hk.2, hk.1⟩ | simp_all) (.int .i64 t399)) (fun _ hk => ⟨hk.1.1.1.2, ⟨hk.1.1.2, hk.1.2⟩⟩)⟩
                  have n4_ : Aside0 (((w38.setCell ⟨gb400, 0, none⟩ (.slice Ao39 t396.length co39)).setCell ⟨gb400, 1, none⟩ (.int .i64 t399)).heap[gb379]? = some (.cells #[.int .u16 a1_0, .int .u16 a1_1] 53 (0, 0))) := ⟨by (with_reducible repeat (first | refine blk_drewN ?_ _ | refine blk_drew ?_ | refine blk_alloc ?_ _)); refine blk_far ?_ NB379_400.out _; (with_reducible repeat (first | refine blk_drewN ?_ _ | refine blk_drew ?_ | refine blk_alloc ?_ _)); refine blk_far ?_ NB379_400.out _; (with_reducible repeat (first | refine blk_drewN ?_ _ | refine blk_drew ?_ | refine blk_alloc ?_ _)); exact BK379.out⟩
                  have n5_ : Aside0 (((w38.setCell ⟨gb400, 0, none⟩ (.slice Ao39 t396.length co39)).setCell ⟨gb400, 1, none⟩ (.int .i64 t399)).heap[gb388]? = some (.cells #[.slice Ao29 t384.length co29, .int .i64 t387] 46 (0, 0))) := ⟨by (with_reducible repeat (first | refine blk_drewN ?_ _ | refine blk_drew ?_ | refine blk_alloc ?_ _)); refine blk_far ?_ NB388_400.out _; (with_reducible repeat (first | refine blk_drewN ?_ _ | refine blk_drew ?_ | refine blk_alloc ?_ _)); refine blk_far ?_ NB388_400.out _; (with_reducible repeat (first | refine blk_drewN ?_ _ | refine blk_drew ?_ | refine blk_alloc ?_ _)); exact BK388.out⟩
                  have n6_ : Aside0 (((w38.setCell ⟨gb400, 0, none⟩ (.slice Ao39 t396.length co39)).setCell ⟨gb400, 1, none⟩ (.int .i64 t399)).heap[gb400]? = some (.cells #[.slice Ao39 t396.length co39, .int .i64 t399] 46 (0, 0))) := ⟨by (with_reducible repeat (first | refine blk_drewN ?_ _ | refine blk_drew ?_ | refine blk_alloc ?_ _)); refine blk_put (cs := #[.slice Ao39 t396.length co39, .int .i64 0]) ?_ 1 _ rfl; (with_reducible repeat (first | refine blk_drewN ?_ _ | refine blk_drew ?_ | refine blk_alloc ?_ _)); refine blk_put (cs := #[.slice none 0 0, .int .i64 0]) ?_ 0 _ rfl; (with_reducible repeat (first | refine blk_drewN ?_ _ | refine blk_drew ?_ | refine blk_alloc ?_ _)); exact BK400.out⟩
                  have n7_ : Aside0 (Below w.heap.size w ((w38.setCell ⟨gb400, 0, none⟩ (.slice Ao39 t396.length co39)).setCell ⟨gb400, 1, none⟩ (.int .i64 t399))) := ⟨by repeat (first | (with_reducible first | exact HB.out | apply below_alloc | apply pw_below_drewN | apply below_drew1 | refine below_set ?_ GE379.out | refine below_set ?_ GE388.out | refine below_set ?_ GE400.out) | exact HB.out)⟩
                  (try clear HO383)
                  (try clear HO386)
                  (try clear HO394)
                  (try clear HO398)
                  (try clear BK379)
                  (try clear BK388)
                  (try clear BK400)
                  (try clear HB)
                  generalize ((w38.setCell ⟨gb400, 0, none⟩ (.slice Ao39 t396.length co39)).setCell ⟨gb400, 1, none⟩ (.int .i64 t399)) = w43 at n0_ n1_ n2_ n3_ n4_ n5_ n6_ n7_ ⊢
                  have HO383 := n0_
                  have HO386 := n1_
                  have HO394 := n2_
                  have HO398 := n3_
                  have BK379 := n4_
                  have BK388 := n5_
                  have BK400 := n6_
                  have HB := n7_
                  clear n0_ n1_ n2_ n3_ n4_ n5_ n6_ n7_
                  have n0_ := Aside0.mk (Kd.R_drew HO383.out)
                  have n1_ := Aside0.mk (Kd.R_drew HO386.out)
                  have n2_ := Aside0.mk (Kd.R_drew HO394.out)
                  have n3_ := Aside0.mk (Kd.R_drew HO398.out)
                  have n4_ := Aside0.mk (blk_drew BK379.out)
                  have n5_ := Aside0.mk (blk_drew BK388.out)
                  have n6_ := Aside0.mk (blk_drew BK400.out)
                  have n7_ := Aside0.mk (below_drew1 HB.out)
                  clear HO383
                  clear HO386
                  clear HO394
                  clear HO398
                  clear BK379
                  clear BK388
                  clear BK400
                  clear HB
                  have HO383 := n0_
                  have HO386 := n1_
                  have HO394 := n2_
                  have HO398 := n3_
                  have BK379 := n4_
                  have BK388 := n5_
                  have BK400 := n6_
                  have HB := n7_
                  clear n0_ n1_ n2_ n3_ n4_ n5_ n6_ n7_
                  refine start_ (n := 27) (S := fun w' => w'.cell? ⟨gb388, 0, none⟩ = some (.slice Ao29 t384.length co29) ∧ w'.cell? ⟨gb388, 1, none⟩ = some (.int .i64 t387) ∧ w'.cell? ⟨gb400, 0, none⟩ = some (.slice Ao39 t396.length co39) ∧ w'.cell? ⟨gb400, 1, none⟩ = some (.int .i64 t399)) (ds := []) #[false, false, false, false, false, false, false, false, false, false, false, false, false, false, false, false, false, false, false, false, false, false, false, false, false, false, false] (by kernel_rfl) rfl rfl ⟨(blk_cell BK388.out 0).trans rfl, (blk_cell BK388.out 1).trans rfl, (blk_cell BK400.out 0).trans rfl, (blk_cell BK400.out 1).trans rfl⟩ (fun hHeld => ?_); refine with_tabW parolelaw04_MerkleChanges.tab10 parolelaw04_MerkleChanges.bits10 (fun HT_ HW_ => ?_)
                  generalize w43.drew = w44 at HO383 HO386 HO394 HO398 BK379 BK388 BK400 HB hHeld ⊢
                  refine pure_ (i := 0) (N := some 42) (v := ?_) (a' := ?_) #[true, false, false, false, false, false, false, false, false, false, false, false, false, false, false, false, false, false, false, false, false, false, false, false, false, false, false] rfl rfl (any_of HT_.out (by kernel_rfl)) (fun _ _ _ h => h) (Or.inl ⟨by rfl, ?_⟩) ?_ ?_
                  rotate_left
                  · intro w'
                    go_simp
                    first | with_reducible rfl | (rw [if_neg (cat_le (by assumption) (by assumption))]) | (rw [if_neg (cat_le2 (by assumption) (by assumption))])
                  rotate_left
                  · simp only [Act.put, List.setIfInBounds_toArray, List.set_cons_zero, List.set_cons_succ, i64_w, i32_w]
                    rfl
                  refine take_ (i := 1) (N := some 43) (v := ?_) (a' := ?_) #[true, true, false, false, false, false, false, false, false, false, false, false, false, false, false, false, false, false, false, false, false, false, false, false, false, false, false] rfl rfl (take_ofW HT_.out HW_.out (by kernel_rfl)) (fun _ _ _ h => h) (Or.inl ⟨by rfl, ?_⟩) hHeld ?_ ?_
                  rotate_left
                  · rintro w' ⟨s0, s1, s2, s3⟩
                    go_simp
                    first | with_reducible rfl | (rw [if_neg (cat_le (by assumption) (by assumption))]) | (rw [if_neg (cat_le2 (by assumption) (by assumption))])
                  rotate_left
                  · simp only [Act.put, List.setIfInBounds_toArray, List.set_cons_zero, List.set_cons_succ, i64_w, i32_w]
                    rfl
                  refine pure_ (i := 2) (N := some 44) (v := ?_) (a' := ?_) #[true, true, true, false, false, false, false, false, false, false, false, false, false, false, false, false, false, false, false, false, false, false, false, false, false, false, false] rfl rfl (any_of HT_.out (by kernel_rfl)) (fun _ _ _ h => h) (Or.inl ⟨by rfl, ?_⟩) ?_ ?_
                  rotate_left
                  · intro w'
                    go_simp
                    first | with_reducible rfl | (rw [if_neg (cat_le (by assumption) (by assumption))]) | (rw [if_neg (cat_le2 (by assumption) (by assumption))])
                  rotate_left
                  · simp only [Act.put, List.setIfInBounds_toArray, List.set_cons_zero, List.set_cons_succ, i64_w, i32_w]
                    rfl
                  refine pure_ (i := 3) (N := some 45) (v := ?_) (a' := ?_) #[true, true, true, true, false, false, false, false, false, false, false, false, false, false, false, false, false, false, false, false, false, false, false, false, false, false, false] rfl rfl (any_of HT_.out (by kernel_rfl)) (fun _ _ _ h => h) (Or.inl ⟨by rfl, ?_⟩) ?_ ?_
                  rotate_left
                  · intro w'
                    go_simp
                    first | with_reducible rfl | (rw [if_neg (cat_le (by assumption) (by assumption))]) | (rw [if_neg (cat_le2 (by assumption) (by assumption))])
                  rotate_left
                  · simp only [Act.put, List.setIfInBounds_toArray, List.set_cons_zero, List.set_cons_succ, i64_w, i32_w]
                    rfl
                  refine pure_ (i := 4) (N := some 46) (v := ?_) (a' := ?_) #[true, true, true, true, true, false, false, false, false, false, false, false, false, false, false, false, false, false, false, false, false, false, false, false, false, false, false] rfl rfl (any_of HT_.out (by kernel_rfl)) (fun _ _ _ h => h) (Or.inl ⟨by rfl, ?_⟩) ?_ ?_
                  rotate_left
                  · intro w'
                    go_simp
                    first | with_reducible rfl | (rw [if_neg (cat_le (by assumption) (by assumption))]) | (rw [if_neg (cat_le2 (by assumption) (by assumption))])
                  rotate_left
                  · simp only [Act.put, List.setIfInBounds_toArray, List.set_cons_zero, List.set_cons_succ, i64_w, i32_w]
                    rfl
                  refine pure_ (i := 6) (N := some 48) (v := ?_) (a' := ?_) #[true, true, true, true, true, false, true, false, false, false, false, false, false, false, false, false, false, false, false, false, false, false, false, false, false, false, false] rfl rfl (any_of HT_.out (by kernel_rfl)) (fun _ _ _ h => h) (Or.inl ⟨by rfl, ?_⟩) ?_ ?_
                  rotate_left
                  · intro w'
                    go_simp
                    first | with_reducible rfl | (rw [if_neg (cat_le (by assumption) (by assumption))]) | (rw [if_neg (cat_le2 (by assumption) (by assumption))])
                  rotate_left
                  · simp only [Act.put, List.setIfInBounds_toArray, List.set_cons_zero, List.set_cons_succ, i64_w, i32_w]
                    rfl
                  refine take_ (i := 5) (N := some 47) (v := ?_) (a' := ?_) #[true, true, true, true, true, true, true, false, false, false, false, false, false, false, false, false, false, false, false, false, false, false, false, false, false, false, false] rfl rfl (take_ofW HT_.out HW_.out (by kernel_rfl)) (fun _ _ _ h => h) (Or.inl ⟨by rfl, ?_⟩) hHeld ?_ ?_
                  rotate_left
                  · rintro w' ⟨s0, s1, s2, s3⟩
                    go_simp
                    first | with_reducible rfl | (rw [if_neg (cat_le (by assumption) (by assumption))]) | (rw [if_neg (cat_le2 (by assumption) (by assumption))])
                  rotate_left
                  · simp only [Act.put, List.setIfInBounds_toArray, List.set_cons_zero, List.set_cons_succ, i64_w, i32_w]
                    rfl
                  refine take_ (i := 7) (N := some 49) (v := ?_) (a' := ?_) #[true, true, true, true, true, true, true, true, false, false, false, false, false, false, false, false, false, false, false, false, false, false, false, false, false, false, false] rfl rfl (take_ofW HT_.out HW_.out (by kernel_rfl)) (fun _ _ _ h => h) (Or.inl ⟨by rfl, ?_⟩) hHeld ?_ ?_
                  rotate_left
                  · rintro w' ⟨s0, s1, s2, s3⟩
                    go_simp
                    first | with_reducible rfl | (rw [if_neg (cat_le (by assumption) (by assumption))]) | (rw [if_neg (cat_le2 (by assumption) (by assumption))])
                  rotate_left
                  · simp only [Act.put, List.setIfInBounds_toArray, List.set_cons_zero, List.set_cons_succ, i64_w, i32_w]
                    rfl
                  refine one_ (i := 8) (N := some 50) #[true, true, true, true, true, true, true, true, true, false, false, false, false, false, false, false, false, false, false, false, false, false, false, false, false, false, false] rfl rfl (one_of HT_.out (by kernel_rfl)) (by decide) (fun K hK => ?_)
                  refine goes_ Try.func36 (by kernel_rfl) rfl #[.slice Ao29 t384.length co29, .slice Ao39 t396.length co39] (by rfl) rfl rfl (by (try simp only [List.map_toArray, List.map_cons, List.map_nil]); first | done | rfl | (simp only [List.length_drop, List.length_take]; rfl)) ?_
                  with_reducible refine (paroleref04_Same.calls k _ _ t384 _ _ t396 true _ ?side1 ?side2 ?side3 ?side4 A16.out).mono ?_
                  (case side1 => repeat (first | exact (Kd.R_reads' HO386.out).2.2 | (with_reducible refine Kd.C_alloc ?_ _) | (with_reducible refine Kd.C_drewN ?_ _) | (with_reducible refine Kd.C_drew ?_)))
                  (case side2 => exact (Kd.R_reads' HO386.out).2.1)
                  (case side3 => repeat (first | exact (Kd.R_reads' HO398.out).2.2 | (with_reducible refine Kd.C_alloc ?_ _) | (with_reducible refine Kd.C_drewN ?_ _) | (with_reducible refine Kd.C_drew ?_)))
                  (case side4 => exact (Kd.R_reads' HO398.out).2.1)
                  rintro e w' ⟨rfl, ⟨nd, rfl⟩⟩
                  refine ⟨_, rfl, ?_⟩
                  refine hK.out _ _ ⟨(blk_cell BK388.out 0).trans rfl, (blk_cell BK388.out 1).trans rfl, (blk_cell BK400.out 0).trans rfl, (blk_cell BK400.out 1).trans rfl⟩ (fun hHeld => ?_)
                  clear hK K
                  refine norm_ (a' := ?_) ?_ ?_
                  rotate_left
                  · show Act.put _ (some 50) _ = _
                    simp only [Act.put, List.setIfInBounds_toArray, List.set_cons_zero, List.set_cons_succ, i64_w, i32_w]
                    rfl
                  refine pure_ (i := 9) (N := some 51) (v := ?_) (a' := ?_) #[true, true, true, true, true, true, true, true, true, true, false, false, false, false, false, false, false, false, false, false, false, false, false, false, false, false, false] rfl rfl (any_of HT_.out (by kernel_rfl)) (fun _ _ _ h => h) (Or.inl ⟨by rfl, ?_⟩) ?_ ?_
                  rotate_left
                  · intro w'
                    go_simp
                    first | with_reducible rfl | (rw [if_neg (cat_le (by assumption) (by assumption))]) | (rw [if_neg (cat_le2 (by assumption) (by assumption))])
                  rotate_left
                  · simp only [Act.put, List.setIfInBounds_toArray, List.set_cons_zero, List.set_cons_succ, i64_w, i32_w]
                    rfl
                  refine pure_ (i := 10) (N := some 52) (v := ?_) (a' := ?_) #[true, true, true, true, true, true, true, true, true, true, true, false, false, false, false, false, false, false, false, false, false, false, false, false, false, false, false] rfl rfl (any_of HT_.out (by kernel_rfl)) (fun _ _ _ h => h) (Or.inl ⟨by rfl, ?_⟩) ?_ ?_
                  rotate_left
                  · intro w'
                    go_simp
                    first | with_reducible rfl | (rw [if_neg (cat_le (by assumption) (by assumption))]) | (rw [if_neg (cat_le2 (by assumption) (by assumption))])
                  rotate_left
                  · simp only [Act.put, List.setIfInBounds_toArray, List.set_cons_zero, List.set_cons_succ, i64_w, i32_w]
                    rfl
                  refine pure_ (i := 11) (N := some 53) (v := ?_) (a' := ?_) #[true, true, true, true, true, true, true, true, true, true, true, true, false, false, false, false, false, false, false, false, false, false, false, false, false, false, false] rfl rfl (any_of HT_.out (by kernel_rfl)) (fun _ _ _ h => h) (Or.inl ⟨by rfl, ?_⟩) ?_ ?_
                  rotate_left
                  · intro w'
                    go_simp
                    first | with_reducible rfl | (rw [if_neg (cat_le (by assumption) (by assumption))]) | (rw [if_neg (cat_le2 (by assumption) (by assumption))])
                  rotate_left
                  · simp only [Act.put, List.setIfInBounds_toArray, List.set_cons_zero, List.set_cons_succ, i64_w, i32_w]
                    rfl
                  refine pure_ (i := 13) (N := some 55) (v := ?_) (a' := ?_) #[true, true, true, true, true, true, true, true, true, true, true, true, false, true, false, false, false, false, false, false, false, false, false, false, false, false, false] rfl rfl (any_of HT_.out (by kernel_rfl)) (fun _ _ _ h => h) (Or.inl ⟨by rfl, ?_⟩) ?_ ?_
                  rotate_left
                  · intro w'
                    go_simp
                    first | with_reducible rfl | (rw [if_neg (cat_le (by assumption) (by assumption))]) | (rw [if_neg (cat_le2 (by assumption) (by assumption))])
                  rotate_left
                  · simp only [Act.put, List.setIfInBounds_toArray, List.set_cons_zero, List.set_cons_succ, i64_w, i32_w]
                    rfl
                  refine pure_ (i := 14) (N := some 56) (v := ?_) (a' := ?_) #[true, true, true, true, true, true, true, true, true, true, true, true, false, true, true, false, false, false, false, false, false, false, false, false, false, false, false] rfl rfl (any_of HT_.out (by kernel_rfl)) (fun _ _ _ h => h) (Or.inl ⟨by rfl, ?_⟩) ?_ ?_
                  rotate_left
                  · intro w'
                    go_simp
                    first | with_reducible rfl | (rw [if_neg (cat_le (by assumption) (by assumption))]) | (rw [if_neg (cat_le2 (by assumption) (by assumption))])
                  rotate_left
                  · simp only [Act.put, List.setIfInBounds_toArray, List.set_cons_zero, List.set_cons_succ, i64_w, i32_w]
                    rfl
                  refine pure_ (i := 15) (N := some 57) (v := ?_) (a' := ?_) #[true, true, true, true, true, true, true, true, true, true, true, true, false, true, true, true, false, false, false, false, false, false, false, false, false, false, false] rfl rfl (any_of HT_.out (by kernel_rfl)) (fun _ _ _ h => h) (Or.inl ⟨by rfl, ?_⟩) ?_ ?_
                  rotate_left
                  · intro w'
                    go_simp
                    first | with_reducible rfl | (rw [if_neg (cat_le (by assumption) (by assumption))]) | (rw [if_neg (cat_le2 (by assumption) (by assumption))])
                  rotate_left
                  · simp only [Act.put, List.setIfInBounds_toArray, List.set_cons_zero, List.set_cons_succ, i64_w, i32_w]
                    rfl
                  refine pure_ (i := 16) (N := some 58) (v := ?_) (a' := ?_) #[true, true, true, true, true, true, true, true, true, true, true, true, false, true, true, true, true, false, false, false, false, false, false, false, false, false, false] rfl rfl (any_of HT_.out (by kernel_rfl)) (fun _ _ _ h => h) (Or.inl ⟨by rfl, ?_⟩) ?_ ?_
                  rotate_left
                  · intro w'
                    go_simp
                    first | with_reducible rfl | (rw [if_neg (cat_le (by assumption) (by assumption))]) | (rw [if_neg (cat_le2 (by assumption) (by assumption))])
                  rotate_left
                  · simp only [Act.put, List.setIfInBounds_toArray, List.set_cons_zero, List.set_cons_succ, i64_w, i32_w]
                    rfl
                  refine pure_ (i := 17) (N := some 59) (v := ?_) (a' := ?_) #[true, true, true, true, true, true, true, true, true, true, true, true, false, true, true, true, true, true, false, false, false, false, false, false, false, false, false] rfl rfl (any_of HT_.out (by kernel_rfl)) (fun _ _ _ h => h) (Or.inl ⟨by rfl, ?_⟩) ?_ ?_
                  rotate_left
                  · intro w'
                    go_simp
                    first | with_reducible rfl | (rw [if_neg (cat_le (by assumption) (by assumption))]) | (rw [if_neg (cat_le2 (by assumption) (by assumption))])
                  rotate_left
                  · simp only [Act.put, List.setIfInBounds_toArray, List.set_cons_zero, List.set_cons_succ, i64_w, i32_w]
                    rfl
                  refine take_ (i := 18) (N := some 60) (v := ?_) (a' := ?_) #[true, true, true, true, true, true, true, true, true, true, true, true, false, true, true, true, true, true, true, false, false, false, false, false, false, false, false] rfl rfl (take_ofW HT_.out HW_.out (by kernel_rfl)) (fun _ _ _ h => h) (Or.inl ⟨by rfl, ?_⟩) hHeld ?_ ?_
                  rotate_left
                  · rintro w' ⟨s0, s1, s2, s3⟩
                    go_simp
                    first | with_reducible rfl | (rw [if_neg (cat_le (by assumption) (by assumption))]) | (rw [if_neg (cat_le2 (by assumption) (by assumption))])
                  rotate_left
                  · simp only [Act.put, List.setIfInBounds_toArray, List.set_cons_zero, List.set_cons_succ, i64_w, i32_w]
                    rfl
                  refine pure_ (i := 19) (N := some 61) (v := ?_) (a' := ?_) #[true, true, true, true, true, true, true, true, true, true, true, true, false, true, true, true, true, true, true, true, false, false, false, false, false, false, false] rfl rfl (any_of HT_.out (by kernel_rfl)) (fun _ _ _ h => h) (Or.inl ⟨by rfl, ?_⟩) ?_ ?_
                  rotate_left
                  · intro w'
                    go_simp
                    first | with_reducible rfl | (rw [if_neg (cat_le (by assumption) (by assumption))]) | (rw [if_neg (cat_le2 (by assumption) (by assumption))])
                  rotate_left
                  · simp only [Act.put, List.setIfInBounds_toArray, List.set_cons_zero, List.set_cons_succ, i64_w, i32_w]
                    rfl
                  refine one_ (i := 12) (N := some 54) #[true, true, true, true, true, true, true, true, true, true, true, true, true, true, true, true, true, true, true, true, false, false, false, false, false, false, false] rfl rfl (one_of HT_.out (by kernel_rfl)) (by decide) (fun K hK => ?_)
                  refine goes_ Try.func33 (by kernel_rfl) rfl #[.slice (some ⟨go13, 0, none⟩) y395.length co13] (by rfl) rfl rfl (by (try simp only [List.map_toArray, List.map_cons, List.map_nil]); first | done | (rw [show y395.length = y392.length from (Kd.R_reads' HO394.out).1.symm] <;> rfl) | rfl | (simp only [List.length_drop, List.length_take]; rfl)) ?_
                  with_reducible refine (merkle_Root.calls _ _ y395 t402 _ ?side1 ?side2 A18.out).mono ?_
                  (case side1 => repeat (first | exact (Kd.R_reads' HO394.out).2.2 | (with_reducible refine Kd.C_alloc ?_ _) | (with_reducible refine Kd.C_drewN ?_ _) | (with_reducible refine Kd.C_drew ?_)))
                  (case side2 => rw [show y395.length = y392.length from (Kd.R_reads' HO394.out).1.symm]; exact (Kd.R_reads' HO394.out).2.1)
                  rintro e w' ⟨rfl, ⟨nd, rfl⟩⟩
                  refine ⟨_, rfl, ?_⟩
                  refine hK.out _ _ ⟨(blk_cell BK388.out 0).trans rfl, (blk_cell BK388.out 1).trans rfl, (blk_cell BK400.out 0).trans rfl, (blk_cell BK400.out 1).trans rfl⟩ (fun hHeld => ?_)
                  clear hK K
                  refine norm_ (a' := ?_) ?_ ?_
                  rotate_left
                  · show Act.put _ (some 54) _ = _
                    simp only [Act.put, List.setIfInBounds_toArray, List.set_cons_zero, List.set_cons_succ, i64_w, i32_w]
                    rfl
                  refine one_ (i := 20) (N := some 62) #[true, true, true, true, true, true, true, true, true, true, true, true, true, true, true, true, true, true, true, true, true, false, false, false, false, false, false] rfl rfl (one_of HT_.out (by kernel_rfl)) (by decide) (fun K hK => ?_)
                  refine goes_ Try.func35 (by kernel_rfl) rfl #[.int .u64 t402, .int .i64 (y392.length : Int), .int .i64 ji10, .agg #[.int .u64 a2, .slice Ao29 t384.length co29]] (by rfl) rfl rfl (by (try simp only [List.map_toArray, List.map_cons, List.map_nil]); first | done | (simp only [hji10]; rfl) | rfl | (simp only [List.length_drop, List.length_take]; rfl)) ?_
                  with_reducible refine (parolelaw04_check.calls t402 (y392.length : Int) ji10 a2 _ _ t384 t403 _ ?side1 ?side2 A19.out).mono ?_
                  (case side1 => repeat (first | exact (Kd.R_reads' HO386.out).2.2 | (with_reducible refine Kd.C_alloc ?_ _) | (with_reducible refine Kd.C_drewN ?_ _) | (with_reducible refine Kd.C_drew ?_)))
                  (case side2 => exact (Kd.R_reads' HO386.out).2.1)
                  rintro e w45 ⟨rfl, hb⟩
                  refine ⟨_, rfl, ?_⟩
                  have n0_ := Aside0.mk (Kd.R_below (by (with_reducible repeat (first | apply Kd.R_alloc | apply Kd.R_drewN | apply Kd.R_drew)); exact HO383.out) hb)
                  have n1_ := Aside0.mk (Kd.R_below (by (with_reducible repeat (first | apply Kd.R_alloc | apply Kd.R_drewN | apply Kd.R_drew)); exact HO386.out) hb)
                  have n2_ := Aside0.mk (Kd.R_below (by (with_reducible repeat (first | apply Kd.R_alloc | apply Kd.R_drewN | apply Kd.R_drew)); exact HO394.out) hb)
                  have n3_ := Aside0.mk (Kd.R_below (by (with_reducible repeat (first | apply Kd.R_alloc | apply Kd.R_drewN | apply Kd.R_drew)); exact HO398.out) hb)
                  have n4_ := Aside0.mk (blk_below (g := gb379) (o := .cells #[.int .u16 a1_0, .int .u16 a1_1] 53 (0, 0)) (by (with_reducible repeat (first | refine blk_drewN ?_ _ | refine blk_drew ?_ | refine blk_alloc ?_ _)); exact BK379.out) hb)
                  have n5_ := Aside0.mk (blk_below (g := gb388) (o := .cells #[.slice Ao29 t384.length co29, .int .i64 t387] 46 (0, 0)) (by (with_reducible repeat (first | refine blk_drewN ?_ _ | refine blk_drew ?_ | refine blk_alloc ?_ _)); exact BK388.out) hb)
                  have n6_ := Aside0.mk (blk_below (g := gb400) (o := .cells #[.slice Ao39 t396.length co39, .int .i64 t399] 46 (0, 0)) (by (with_reducible repeat (first | refine blk_drewN ?_ _ | refine blk_drew ?_ | refine blk_alloc ?_ _)); exact BK400.out) hb)
                  have n7_ := Aside0.mk (below_step (by repeat (first | (with_reducible first | exact HB.out | apply below_alloc | apply pw_below_drewN | apply below_drew1 | refine below_set ?_ GE379.out | refine below_set ?_ GE388.out | refine below_set ?_ GE400.out) | exact HB.out)) hb)
                  clear HO383
                  clear HO386
                  clear HO394
                  clear HO398
                  clear BK379
                  clear BK388
                  clear BK400
                  clear HB
                  have HO383 := n0_
                  have HO386 := n1_
                  have HO394 := n2_
                  have HO398 := n3_
                  have BK379 := n4_
                  have BK388 := n5_
                  have BK400 := n6_
                  have HB := n7_
                  clear n0_ n1_ n2_ n3_ n4_ n5_ n6_ n7_
                  (try clear hb)
                  (try clear hb2)
                  (try clear hk)
                  (try clear hi)
                  refine hK.out _ _ ⟨(blk_cell BK388.out 0).trans rfl, (blk_cell BK388.out 1).trans rfl, (blk_cell BK400.out 0).trans rfl, (blk_cell BK400.out 1).trans rfl⟩ (fun hHeld => ?_)
                  clear hK K
                  refine norm_ (a' := ?_) ?_ ?_
                  rotate_left
                  · show Act.put _ (some 62) _ = _
                    simp only [Act.put, List.setIfInBounds_toArray, List.set_cons_zero, List.set_cons_succ, i64_w, i32_w]
                    rfl
                  refine pure_ (i := 21) (N := some 63) (v := ?_) (a' := ?_) #[true, true, true, true, true, true, true, true, true, true, true, true, true, true, true, true, true, true, true, true, true, true, false, false, false, false, false] rfl rfl (any_of HT_.out (by kernel_rfl)) (fun _ _ _ h => h) (Or.inl ⟨by rfl, ?_⟩) ?_ ?_
                  rotate_left
                  · intro w'
                    go_simp
                    first | with_reducible rfl | (rw [if_neg (cat_le (by assumption) (by assumption))]) | (rw [if_neg (cat_le2 (by assumption) (by assumption))])
                  rotate_left
                  · simp only [Act.put, List.setIfInBounds_toArray, List.set_cons_zero, List.set_cons_succ, i64_w, i32_w]
                    rfl
                  refine pure_ (i := 22) (N := some 64) (v := ?_) (a' := ?_) #[true, true, true, true, true, true, true, true, true, true, true, true, true, true, true, true, true, true, true, true, true, true, true, false, false, false, false] rfl rfl (any_of HT_.out (by kernel_rfl)) (fun _ _ _ h => h) (Or.inl ⟨by rfl, ?_⟩) ?_ ?_
                  rotate_left
                  · intro w'
                    go_simp
                    first | with_reducible rfl | (rw [if_neg (cat_le (by assumption) (by assumption))]) | (rw [if_neg (cat_le2 (by assumption) (by assumption))])
                  rotate_left
                  · simp only [Act.put, List.setIfInBounds_toArray, List.set_cons_zero, List.set_cons_succ, i64_w, i32_w]
                    rfl
                  refine pure_ (i := 23) (N := some 65) (v := ?_) (a' := ?_) #[true, true, true, true, true, true, true, true, true, true, true, true, true, true, true, true, true, true, true, true, true, true, true, true, false, false, false] rfl rfl (any_of HT_.out (by kernel_rfl)) (fun _ _ _ h => h) (Or.inl ⟨by rfl, ?_⟩) ?_ ?_
                  rotate_left
                  · intro w'
                    go_simp
                    first | with_reducible rfl | (rw [if_neg (cat_le (by assumption) (by assumption))]) | (rw [if_neg (cat_le2 (by assumption) (by assumption))])
                  rotate_left
                  · simp only [Act.put, List.setIfInBounds_toArray, List.set_cons_zero, List.set_cons_succ, i64_w, i32_w]
                    rfl
                  refine pure_ (i := 24) (N := some 66) (v := ?_) (a' := ?_) #[true, true, true, true, true, true, true, true, true, true, true, true, true, true, true, true, true, true, true, true, true, true, true, true, true, false, false] rfl rfl (any_of HT_.out (by kernel_rfl)) (fun _ _ _ h => h) (Or.inl ⟨by rfl, ?_⟩) ?_ ?_
                  rotate_left
                  · intro w'
                    go_simp
                    first | with_reducible rfl | (rw [if_neg (cat_le (by assumption) (by assumption))]) | (rw [if_neg (cat_le2 (by assumption) (by assumption))])
                  rotate_left
                  · simp only [Act.put, List.setIfInBounds_toArray, List.set_cons_zero, List.set_cons_succ, i64_w, i32_w]
                    rfl
                  refine pure_ (i := 25) (N := some 67) (v := ?_) (a' := ?_) #[true, true, true, true, true, true, true, true, true, true, true, true, true, true, true, true, true, true, true, true, true, true, true, true, true, true, false] rfl rfl (any_of HT_.out (by kernel_rfl)) (fun _ _ _ h => h) (Or.inl ⟨by rfl, ?_⟩) ?_ ?_
                  rotate_left
                  · intro w'
                    go_simp
                    first | with_reducible rfl | (rw [if_neg (cat_le (by assumption) (by assumption))]) | (rw [if_neg (cat_le2 (by assumption) (by assumption))])
                  rotate_left
                  · simp only [Act.put, List.setIfInBounds_toArray, List.set_cons_zero, List.set_cons_succ, i64_w, i32_w]
                    rfl
                  refine pure_ (i := 26) (N := some 6) (v := ?_) (a' := ?_) #[true, true, true, true, true, true, true, true, true, true, true, true, true, true, true, true, true, true, true, true, true, true, true, true, true, true, true] rfl rfl (any_of HT_.out (by kernel_rfl)) (fun _ _ _ h => h) (Or.inl ⟨by rfl, ?_⟩) ?_ ?_
                  rotate_left
                  · intro w'
                    go_simp
                    first | with_reducible rfl | (rw [if_neg (cat_le (by assumption) (by assumption))]) | (rw [if_neg (cat_le2 (by assumption) (by assumption))])
                  rotate_left
                  · simp only [Act.put, List.setIfInBounds_toArray, List.set_cons_zero, List.set_cons_succ, i64_w, i32_w]
                    rfl
                  refine done_ (done_of HT_.out (by kernel_rfl)) ?_
                  try go_wp2
                  go_ret
                  exact ⟨by first | rfl | (simp [errW_none, errW_some] <;> rfl) | (simp only [← hji10]; first | rfl | (simp [errW_none, errW_some] <;> rfl)) | (simp [*, errW_none, errW_some] <;> rfl), by repeat (first | (with_reducible first | exact HB.out | apply below_alloc | apply pw_below_drewN | apply below_drew1 | refine below_set ?_ GE379.out | refine below_set ?_ GE388.out | refine below_set ?_ GE400.out) | exact HB.out)⟩
                · rw [if_neg c20] at H
                  have c20b0 : (t403 == 0) = false := beq_eq_false_iff_ne.mpr c20
                  have c20b1 : (t403 != 0) = true := bne_iff_ne.mpr c20
                  exact absurd H (by simp)
              · replace c17 := Bool.eq_false_iff.mpr c17
                subst c17
                have H1 : (none) = some r := by rw [if_neg (show ¬ (false = true) by decide)] at H; exact H
                clear H
                have H := H1
                clear H1
                exact absurd H (by simp)
            · rw [if_neg c15] at H
              have c15b0 : (t387 == 0) = false := beq_eq_false_iff_ne.mpr c15
              have c15b1 : (t387 != 0) = true := bne_iff_ne.mpr c15
              exact absurd H (by simp)
          · rw [if_neg c12] at H
            exact absurd H (by simp)
        · rw [if_neg c11] at H
          exact absurd H (by simp)
      · rw [if_neg c9] at H
        exact absurd H (by simp)
  · replace c5 := Bool.eq_false_iff.mpr c5
    subst c5
    have H1 : (none) = some r := by rw [if_neg (show ¬ (false = true) by decide)] at H; exact H
    clear H
    have H := H1
    clear H1
    exact absurd H (by simp)

-- NOT PRINTED: function 13 (parolelaw04_MerkleRefuses)

/-! ### paroleref04_half: function 58 -/
def paroleref04_half.l0 : Nat → Int → Int → Option (Int)
  | 0, _, _ => none
  | k + 1, x0, x3 => if (wrap64 (2 * x3)) < x0 then (paroleref04_half.l0 k x0 (wrap64 (2 * x3))) else (some x3)
def paroleref04_half.f (k : Nat) (a0 : Int) : Option (Int) := paroleref04_half.l0 k a0 1
theorem paroleref04_half.mono_l : ∀ k, (∀ y0 y1, LeO (paroleref04_half.l0 k y0 y1) (paroleref04_half.l0 (k + 1) y0 y1))
  | 0 => fun _ _ r h => by simp [paroleref04_half.l0] at h
  | k + 1 => by
    have ih0 := paroleref04_half.mono_l k
    · intro y0 y1
      unfold paroleref04_half.l0
      repeat' first
      | (with_reducible exact ih0 _ _)
      | (with_reducible exact LeO.refl _)
      | (with_reducible exact LeO.none _)
      | (with_reducible refine LeO.ite ?_ ?_)
      | (with_reducible refine LeO.bind ?_ (fun _ => ?_))
      | exact ih0 _ _
      | exact LeO.none _
      | refine LeO.ite ?_ ?_
      | refine LeO.bind ?_ (fun _ => ?_)
theorem paroleref04_half.mono : ∀ a0 k, LeO (paroleref04_half.f k a0) (paroleref04_half.f (k + 1) a0) := by
  intro a0 k
  have ih0 := paroleref04_half.mono_l k
  unfold paroleref04_half.f
  repeat' first
      | (with_reducible exact ih0 _ _)
      | (with_reducible exact LeO.refl _)
      | (with_reducible exact LeO.none _)
      | (with_reducible refine LeO.ite ?_ ?_)
      | (with_reducible refine LeO.bind ?_ (fun _ => ?_))
      | exact ih0 _ _
      | exact LeO.none _
      | refine LeO.ite ?_ ?_
      | refine LeO.bind ?_ (fun _ => ?_)
set_option maxHeartbeats 8000000 in
set_option maxRecDepth 100000 in
theorem paroleref04_half.calls (k : Nat) (a0 : Int) (r : Int) (w : World) (h : paroleref04_half.f k a0 = some r) :
    Calls Try.prog 58 #[.int .i64 a0] w fun e w' => e = .returned (.int .i64 r) ∧ Drawn0 w w' := by
  have H : (paroleref04_half.l0 k a0 1) = some r := h
  clear h
  have H' := Aside0.mk H
  clear H
  go_enter Try.func58, Try.ntmps58
  go_wp2
  go_loopg [3] k (fun kq v3 w' => ∃ (x3_1 : Int), v3 = .int .i64 x3_1 ∧ Aside0 (paroleref04_half.l0 kq a0 x3_1 = some r) ∧ Aside0 (kq ≤ k) ∧ Drawn0 w w')
  case atStart => exact ⟨(1), (by first | rfl | (simp; done) | (simp [*]; done)), H', ⟨Nat.le_refl _⟩, by repeat (first | exact Drawn0.refl _ | apply Drawn0.step)⟩
  case round =>
    clear H'
    obtain ⟨x3_1, rfl, HA, HK1, ⟨m1, rfl⟩⟩ := hrel
    cases gk with
    | zero => exact absurd HA.out (by simp [paroleref04_half.l0])
    | succ k1 =>
      have H := HA.out
      clear HA
      simp only [paroleref04_half.l0] at H
      by_cases c2 : (wrap64 (2 * x3_1)) < a0
      · rw [if_pos c2] at H
        have c2b0 : decide ((wrap64 (2 * x3_1)) < a0) = true := decide_eq_true c2
        clear c2
        have H' := Aside0.mk H
        clear H
        go_wp2
        go_roundg k1
        case measure => have := HK1.out; omega
        case rel => exact ⟨(wrap64 (2 * x3_1)), (by first | rfl | (simp; done) | (simp [*]; done)), H', ⟨by have := HK1.out; omega⟩, by repeat (first | exact Drawn0.refl _ | apply Drawn0.step)⟩
      · rw [if_neg c2] at H
        have c2b0 : decide ((wrap64 (2 * x3_1)) < a0) = false := decide_eq_false c2
        clear c2
        obtain rfl := Option.some.inj H
        go_wp2
        go_ret
        exact ⟨by first | rfl | (simp; done) | (simp [*]; done), by repeat (first | exact Drawn0.refl _ | apply Drawn0.step)⟩

/-! ### paroleref04_Top: function 50 -/
def paroleref04_Top.f : Nat → List Int → Option (Int)
  | 0, _ => none
  | k + 1, l0 => if (l0.length : Int) = 0 then (some 0) else (if (l0.length : Int) = 1 then (if 0 < (l0.length : Int) then ((paroleref03_Join.f 0 (rd l0 0)).bind fun t459 => (some t459)) else (none)) else ((paroleref04_half.f k (l0.length : Int)).bind fun t460 => (if 0 ≤ t460 then (if t460 ≤ (l0.length : Int) then ((paroleref04_Top.f k (l0.take (t460 : Int).toNat)).bind fun t462 => ((paroleref04_Top.f k (l0.drop (t460 : Int).toNat)).bind fun t464 => ((paroleref03_Join.f t462 t464).bind fun t465 => (some t465)))) else (none)) else (none))))
theorem paroleref04_Top.mono_l : ∀ k, (∀ y0, LeO (paroleref04_Top.f k y0) (paroleref04_Top.f (k + 1) y0))
  | 0 => fun _ r h => by simp [paroleref04_Top.f] at h
  | k + 1 => by
    have ih0 := paroleref04_Top.mono_l k
    · intro y0
      unfold paroleref04_Top.f
      repeat' first
      | (with_reducible exact ih0 _)
      | (with_reducible exact paroleref04_half.mono _ _)
      | (with_reducible exact LeO.refl _)
      | (with_reducible exact LeO.none _)
      | (with_reducible refine LeO.ite ?_ ?_)
      | (with_reducible refine LeO.bind ?_ (fun _ => ?_))
      | exact ih0 _
      | exact paroleref04_half.mono _ _
      | exact LeO.none _
      | refine LeO.ite ?_ ?_
      | refine LeO.bind ?_ (fun _ => ?_)
theorem paroleref04_Top.mono : ∀ a0 k, LeO (paroleref04_Top.f k a0) (paroleref04_Top.f (k + 1) a0) := by
  intro a0 k
  have ih0 := paroleref04_Top.mono_l k
  exact ih0 a0
def paroleref04_Top.T6 : Bool × List (List Nat × List Nat) := (true, [([], []), ([], []), ([0, 1], [0, 1]), ([2], [2]), ([], []), ([], []), ([4, 5], [4, 5]), ([6, 3], [6]), ([3, 7, 7], [3, 7]), ([8, 8, 0, 1, 2, 3, 4, 5, 6, 7, 8], [8])])
def paroleref04_Top.B6 : List Nat := [0, 0, 3, 7, 0, 0, 48, 127, 255, 511]
theorem paroleref04_Top.tab6 : rtab .any (opsOf Try.f50 6) = paroleref04_Top.T6 := by kernel_rfl
theorem paroleref04_Top.bits6 : waitsOk paroleref04_Top.T6.2 paroleref04_Top.B6 = true := by kernel_rfl
set_option maxHeartbeats 8000000 in
set_option maxRecDepth 100000 in
theorem paroleref04_Top.calls (k : Nat) : ∀ (A0 : Option Addr) (c0 : Nat) (l0 : List Int) (r : Int) (w : World) (hr0 : Kd.C (Kd.int .u64) w A0 l0.length l0) (hc0 : l0.length ≤ c0) (h : paroleref04_Top.f k l0 = some r),
    Calls Try.prog 50 #[.slice A0 l0.length c0] w fun e w' => e = .returned (.int .u64 r) ∧ Below w.heap.size w w' := by
  induction k using Nat.strongRecOn with
  | _ k ih =>
  intro A0 c0 l0 r w hr0 hc0 h
  cases k with
  | zero => exact absurd h (by simp [paroleref04_Top.f])
  | succ k =>
  simp only [paroleref04_Top.f] at h
  have HR0 := Aside0.mk hr0
  have HC0 := Aside0.mk hc0
  clear hr0 hc0
  have HB := Aside0.mk (Below.refl w.heap.size w)
  have H : (if (l0.length : Int) = 0 then (some 0) else (if (l0.length : Int) = 1 then (if 0 < (l0.length : Int) then ((paroleref03_Join.f 0 (rd l0 0)).bind fun t459 => (some t459)) else (none)) else ((paroleref04_half.f k (l0.length : Int)).bind fun t460 => (if 0 ≤ t460 then (if t460 ≤ (l0.length : Int) then ((paroleref04_Top.f k (l0.take (t460 : Int).toNat)).bind fun t462 => ((paroleref04_Top.f k (l0.drop (t460 : Int).toNat)).bind fun t464 => ((paroleref03_Join.f t462 t464).bind fun t465 => (some t465)))) else (none)) else (none))))) = some r := h
  clear h
  by_cases c2 : (l0.length : Int) = 0
  · rw [if_pos c2] at H
    have c2b0 : ((l0.length : Int) == 0) = true := beq_iff_eq.mpr c2
    have c2b1 : ((l0.length : Int) != 0) = false := bne_eq_false_iff_eq.mpr c2
    clear c2
    obtain rfl := Option.some.inj H
    go_enter Try.func50, Try.ntmps50
    go_wp2
    go_ret
    exact ⟨by first | rfl | (simp [errW_none, errW_some] <;> rfl) | (simp [*, errW_none, errW_some] <;> rfl), by repeat (first | (with_reducible first | exact HB.out | apply below_alloc | apply pw_below_drewN | apply below_drew1) | exact HB.out)⟩
  · rw [if_neg c2] at H
    have c2b0 : ((l0.length : Int) == 0) = false := beq_eq_false_iff_ne.mpr c2
    have c2b1 : ((l0.length : Int) != 0) = true := bne_iff_ne.mpr c2
    have c2b2 : ¬ (l0 = []) := fun h_ => c2 (by rw [h_]; rfl)
    by_cases c3 : (l0.length : Int) = 1
    · rw [if_pos c3] at H
      have c3b0 : ((l0.length : Int) == 1) = true := beq_iff_eq.mpr c3
      have c3b1 : ((l0.length : Int) != 1) = false := bne_eq_false_iff_eq.mpr c3
      clear c3
      by_cases c4 : 0 < (l0.length : Int)
      · rw [if_pos c4] at H
        have c4b0 : decide (0 < (l0.length : Int)) = true := decide_eq_true c4
        have c4b1 : decide (0 < l0.length) = true := decide_eq_true (by omega)
        clear c4
        replace H := Option.bind_eq_some_iff.mp H
        obtain ⟨t459, A50, H⟩ := H
        replace H : (some t459) = some r := H
        have A5 := Aside0.mk A50
        clear A50
        obtain rfl := Option.some.inj H
        have p458 : 0 ≤ (0 : Int) := (by omega)
        have q458 : 0 < (l0.length : Int) := of_decide_eq_true (by first | (with_reducible assumption) | assumption)
        obtain ⟨ad458, e458, hx458_0⟩ := Kd.at_int HR0.out 0 p458 q458
        cases e458
        have qi458 : (0 < l0.length) = True := eq_true (by omega)
        (try rw [show ((0 : Int)).toNat = 0 from rfl] at hx458_0)
        (try rw [Addr.add_zero'] at hx458_0)
        replace p458 := eq_true p458
        replace q458 := eq_true q458
        go_enter Try.func50, Try.ntmps50
        go_wp2_with (first | ((with_reducible refine gate_callee (f := 26) rfl ?_); refine goesL_ (some 13) rfl rfl Try.func26 (by kernel_rfl) rfl #[.int .u64 0, .int .u64 (rd l0 0)] rfl (by (try simp only [List.map_toArray, List.map_cons, List.map_nil]); first | done | rfl | (simp only [List.length_drop, List.length_take]; rfl)) ?_; (with_reducible refine (paroleref03_Join.calls 0 (rd l0 0) t459 _ A5.out).mono ?_); rintro e w' ⟨rfl, ⟨nd, rfl⟩⟩; refine ⟨_, rfl, ?_⟩))
        go_ret
        exact ⟨by first | rfl | (simp [errW_none, errW_some] <;> rfl) | (simp [*, errW_none, errW_some] <;> rfl), by repeat (first | (with_reducible first | exact HB.out | apply below_alloc | apply pw_below_drewN | apply below_drew1) | exact HB.out)⟩
      · rw [if_neg c4] at H
        exact absurd H (by simp)
    · rw [if_neg c3] at H
      have c3b0 : ((l0.length : Int) == 1) = false := beq_eq_false_iff_ne.mpr c3
      have c3b1 : ((l0.length : Int) != 1) = true := bne_iff_ne.mpr c3
      replace H := Option.bind_eq_some_iff.mp H
      obtain ⟨t460, A60, H⟩ := H
      replace H : (if 0 ≤ t460 then (if t460 ≤ (l0.length : Int) then ((paroleref04_Top.f k (l0.take (t460 : Int).toNat)).bind fun t462 => ((paroleref04_Top.f k (l0.drop (t460 : Int).toNat)).bind fun t464 => ((paroleref03_Join.f t462 t464).bind fun t465 => (some t465)))) else (none)) else (none)) = some r := H
      have A6 := Aside0.mk A60
      clear A60
      by_cases c7 : 0 ≤ t460
      · rw [if_pos c7] at H
        have c7b0 := eq_true c7
        have c7b1 : decide (0 ≤ t460) = true := decide_eq_true c7
        clear c7
        by_cases c8 : t460 ≤ (l0.length : Int)
        · rw [if_pos c8] at H
          have c8b0 := eq_true c8
          have c8b1 : decide (t460 ≤ (l0.length : Int)) = true := decide_eq_true c8
          clear c8
          replace H := Option.bind_eq_some_iff.mp H
          obtain ⟨t462, A90, H⟩ := H
          replace H : ((paroleref04_Top.f k (l0.drop (t460 : Int).toNat)).bind fun t464 => ((paroleref03_Join.f t462 t464).bind fun t465 => (some t465))) = some r := H
          have A9 := Aside0.mk A90
          clear A90
          have c10b0 := eq_true (of_decide_eq_true (by first | (with_reducible assumption) | assumption) : 0 ≤ t460)
          have c11b0 := eq_true (of_decide_eq_true (by first | (with_reducible assumption) | assumption) : t460 ≤ (l0.length : Int))
          replace H := Option.bind_eq_some_iff.mp H
          obtain ⟨t464, A120, H⟩ := H
          replace H : ((paroleref03_Join.f t462 t464).bind fun t465 => (some t465)) = some r := H
          have A12 := Aside0.mk A120
          clear A120
          replace H := Option.bind_eq_some_iff.mp H
          obtain ⟨t465, A130, H⟩ := H
          replace H : (some t465) = some r := H
          have A13 := Aside0.mk A130
          clear A130
          obtain rfl := Option.some.inj H
          go_enter Try.func50, Try.ntmps50
          try go_wp2_with (first | ((with_reducible refine gate_callee (f := 58) rfl ?_); refine goesL_ (some 16) rfl rfl Try.func58 (by kernel_rfl) rfl #[.int .i64 (l0.length : Int)] rfl (by (try simp only [List.map_toArray, List.map_cons, List.map_nil]); first | done | rfl | (simp only [List.length_drop, List.length_take]; rfl)) ?_; (with_reducible refine (paroleref04_half.calls k (l0.length : Int) t460 _ A6.out).mono ?_); rintro e w' ⟨rfl, ⟨nd, rfl⟩⟩; refine ⟨_, rfl, ?_⟩))
          have n0_ := Aside0.mk (below_drew1 (pw_below_drewN HB.out nd))
          clear HB
          have HB := n0_
          clear n0_
          obtain ⟨i015, hi015, _, hsz15, _⟩ := info_parts info22
          obtain ⟨hcut15, hA15, hC15⟩ := print_take_of (P := Try.prog) (Value.int .u64) 0 41 22 .i64 Try.underlying41 hi015 hsz15 A0 c0 l0 t460 (of_decide_eq_true (by first | (with_reducible assumption) | assumption)) (of_decide_eq_true (by first | (with_reducible assumption) | assumption)) HC0.out
          have HR461 := Aside0.mk (Kd.C_of_reads (h1 := fun _ => rfl) (hA15 _ (Kd.reads_of_C HR0.out)))
          have HC461 := Aside0.mk hC15
          clear hA15 hC15 hi015 hsz15
          obtain ⟨i016, hi016, _, hsz16, _⟩ := info_parts info22
          obtain ⟨A16, hcut16, hA16, hC16⟩ := print_drop_of (P := Try.prog) (Value.int .u64) 0 41 22 .i64 Try.underlying41 hi016 hsz16 A0 c0 l0 t460 (of_decide_eq_true (by first | (with_reducible assumption) | assumption)) (of_decide_eq_true (by first | (with_reducible assumption) | assumption)) HC0.out
          have HR463 := Aside0.mk (Kd.C_of_reads (h1 := fun _ => rfl) (hA16 _ (Kd.reads_of_C HR0.out)))
          have HC463 := Aside0.mk hC16
          clear hA16 hC16 hi016 hsz16
          refine start_ (n := 10) (S := fun w' => True) (ds := []) #[false, false, false, false, false, false, false, false, false, false] (by kernel_rfl) rfl rfl trivial (fun hHeld => ?_); refine with_tabW paroleref04_Top.tab6 paroleref04_Top.bits6 (fun HT_ HW_ => ?_)
          generalize (w.drewN nd).drew = w14 at HB HR461 HR463 hHeld ⊢
          refine pure_ (i := 0) (N := some 17) (v := ?_) (a' := ?_) #[true, false, false, false, false, false, false, false, false, false] rfl rfl (any_of HT_.out (by kernel_rfl)) (fun _ _ _ h => h) (Or.inl ⟨by rfl, ?_⟩) ?_ ?_
          rotate_left
          · intro w'
            go_simp
            first | with_reducible rfl | (rw [if_neg (cat_le (by assumption) (by assumption))]) | (rw [if_neg (cat_le2 (by assumption) (by assumption))])
          rotate_left
          · simp only [Act.put, List.setIfInBounds_toArray, List.set_cons_zero, List.set_cons_succ, i64_w, i32_w]
            rfl
          refine pure_ (i := 1) (N := some 18) (v := ?_) (a' := ?_) #[true, true, false, false, false, false, false, false, false, false] rfl rfl (any_of HT_.out (by kernel_rfl)) (fun _ _ _ h => h) (Or.inl ⟨by rfl, ?_⟩) ?_ ?_
          rotate_left
          · intro w'
            go_simp
            first | with_reducible rfl | (rw [if_neg (cat_le (by assumption) (by assumption))]) | (rw [if_neg (cat_le2 (by assumption) (by assumption))])
          rotate_left
          · simp only [Act.put, List.setIfInBounds_toArray, List.set_cons_zero, List.set_cons_succ, i64_w, i32_w]
            rfl
          refine pure_ (i := 2) (N := some 19) (v := ?_) (a' := ?_) #[true, true, true, false, false, false, false, false, false, false] rfl rfl (any_of HT_.out (by kernel_rfl)) (fun _ _ _ h => h) (Or.inl ⟨by rfl, ?_⟩) ?_ ?_
          rotate_left
          · intro w'
            go_simp
            first | with_reducible rfl | (rw [if_neg (cat_le (by assumption) (by assumption))]) | (rw [if_neg (cat_le2 (by assumption) (by assumption))])
          rotate_left
          · simp only [Act.put, List.setIfInBounds_toArray, List.set_cons_zero, List.set_cons_succ, i64_w, i32_w]
            rfl
          refine pure_ (i := 4) (N := some 21) (v := ?_) (a' := ?_) #[true, true, true, false, true, false, false, false, false, false] rfl rfl (any_of HT_.out (by kernel_rfl)) (fun _ _ _ h => h) (Or.inl ⟨by rfl, ?_⟩) ?_ ?_
          rotate_left
          · intro w'
            go_simp
            first | with_reducible rfl | (rw [if_neg (cat_le (by assumption) (by assumption))]) | (rw [if_neg (cat_le2 (by assumption) (by assumption))])
          rotate_left
          · simp only [Act.put, List.setIfInBounds_toArray, List.set_cons_zero, List.set_cons_succ, i64_w, i32_w]
            rfl
          refine pure_ (i := 5) (N := some 22) (v := ?_) (a' := ?_) #[true, true, true, false, true, true, false, false, false, false] rfl rfl (any_of HT_.out (by kernel_rfl)) (fun _ _ _ h => h) (Or.inl ⟨by rfl, ?_⟩) ?_ ?_
          rotate_left
          · intro w'
            go_simp
            first | with_reducible rfl | (rw [if_neg (cat_le (by assumption) (by assumption))]) | (rw [if_neg (cat_le2 (by assumption) (by assumption))])
          rotate_left
          · simp only [Act.put, List.setIfInBounds_toArray, List.set_cons_zero, List.set_cons_succ, i64_w, i32_w]
            rfl
          refine pure_ (i := 6) (N := some 23) (v := ?_) (a' := ?_) #[true, true, true, false, true, true, true, false, false, false] rfl rfl (any_of HT_.out (by kernel_rfl)) (fun _ _ _ h => h) (Or.inl ⟨by rfl, ?_⟩) ?_ ?_
          rotate_left
          · intro w'
            go_simp
            first | with_reducible rfl | (rw [if_neg (cat_le (by assumption) (by assumption))]) | (rw [if_neg (cat_le2 (by assumption) (by assumption))])
          rotate_left
          · simp only [Act.put, List.setIfInBounds_toArray, List.set_cons_zero, List.set_cons_succ, i64_w, i32_w]
            rfl
          refine one_ (i := 3) (N := some 20) #[true, true, true, true, true, true, true, false, false, false] rfl rfl (one_of HT_.out (by kernel_rfl)) (by decide) (fun K hK => ?_)
          refine goes_ Try.func50 (by kernel_rfl) rfl #[.slice A0 (l0.take (t460 : Int).toNat).length c0] (by rfl) rfl rfl (by (try simp only [List.map_toArray, List.map_cons, List.map_nil]); first | done | (rw [show (l0.take (t460 : Int).toNat).length = t460.toNat from (by rw [List.length_take]; have h_ : (t460 : Int) ≤ (l0.length : Int) := of_decide_eq_true (by first | (with_reducible assumption) | assumption); omega)] <;> rfl) | rfl | (simp only [List.length_drop, List.length_take]; rfl)) ?_
          with_reducible refine (ih k (by omega) _ _ (l0.take (t460 : Int).toNat) t462 _ ?side1 ?side2 A9.out).mono ?_
          (case side1 => repeat (first | exact (Kd.C_below HR461.out HB.out) | (with_reducible refine Kd.C_alloc ?_ _) | (with_reducible refine Kd.C_drewN ?_ _) | (with_reducible refine Kd.C_drew ?_)))
          (case side2 => exact HC461.out)
          rintro e w17 ⟨rfl, hb⟩
          refine ⟨_, rfl, ?_⟩
          have n0_ := Aside0.mk (below_step (by repeat (first | (with_reducible first | exact HB.out | apply below_alloc | apply pw_below_drewN | apply below_drew1) | exact HB.out)) hb)
          clear HB
          have HB := n0_
          clear n0_
          (try clear hb)
          (try clear hb2)
          (try clear hk)
          (try clear hi)
          refine hK.out _ _ trivial (fun hHeld => ?_)
          clear hK K
          refine norm_ (a' := ?_) ?_ ?_
          rotate_left
          · show Act.put _ (some 20) _ = _
            simp only [Act.put, List.setIfInBounds_toArray, List.set_cons_zero, List.set_cons_succ, i64_w, i32_w]
            rfl
          refine one_ (i := 7) (N := some 24) #[true, true, true, true, true, true, true, true, false, false] rfl rfl (one_of HT_.out (by kernel_rfl)) (by decide) (fun K hK => ?_)
          refine goes_ Try.func50 (by kernel_rfl) rfl #[.slice A16 (l0.drop (t460 : Int).toNat).length (c0 - t460.toNat)] (by rfl) rfl rfl (by (try simp only [List.map_toArray, List.map_cons, List.map_nil]); first | done | (rw [show (l0.drop (t460 : Int).toNat).length = (l0.length - t460.toNat) from List.length_drop] <;> rfl) | rfl | (simp only [List.length_drop, List.length_take]; rfl)) ?_
          with_reducible refine (ih k (by omega) _ _ (l0.drop (t460 : Int).toNat) t464 _ ?side1 ?side2 A12.out).mono ?_
          (case side1 => repeat (first | exact (Kd.C_below HR463.out HB.out) | (with_reducible refine Kd.C_alloc ?_ _) | (with_reducible refine Kd.C_drewN ?_ _) | (with_reducible refine Kd.C_drew ?_)))
          (case side2 => exact HC463.out)
          rintro e w18 ⟨rfl, hb⟩
          refine ⟨_, rfl, ?_⟩
          have n0_ := Aside0.mk (below_step (by repeat (first | (with_reducible first | exact HB.out | apply below_alloc | apply pw_below_drewN | apply below_drew1) | exact HB.out)) hb)
          clear HB
          have HB := n0_
          clear n0_
          (try clear hb)
          (try clear hb2)
          (try clear hk)
          (try clear hi)
          refine hK.out _ _ trivial (fun hHeld => ?_)
          clear hK K
          refine norm_ (a' := ?_) ?_ ?_
          rotate_left
          · show Act.put _ (some 24) _ = _
            simp only [Act.put, List.setIfInBounds_toArray, List.set_cons_zero, List.set_cons_succ, i64_w, i32_w]
            rfl
          refine one_ (i := 8) (N := some 25) #[true, true, true, true, true, true, true, true, true, false] rfl rfl (one_of HT_.out (by kernel_rfl)) (by decide) (fun K hK => ?_)
          refine goes_ Try.func26 (by kernel_rfl) rfl #[.int .u64 t462, .int .u64 t464] (by rfl) rfl rfl (by (try simp only [List.map_toArray, List.map_cons, List.map_nil]); first | done | rfl | (simp only [List.length_drop, List.length_take]; rfl)) ?_
          with_reducible refine (paroleref03_Join.calls t462 t464 t465 _ A13.out).mono ?_
          rintro e w' ⟨rfl, ⟨nd, rfl⟩⟩
          refine ⟨_, rfl, ?_⟩
          refine hK.out _ _ trivial (fun hHeld => ?_)
          clear hK K
          refine norm_ (a' := ?_) ?_ ?_
          rotate_left
          · show Act.put _ (some 25) _ = _
            simp only [Act.put, List.setIfInBounds_toArray, List.set_cons_zero, List.set_cons_succ, i64_w, i32_w]
            rfl
          refine pure_ (i := 9) (N := some 2) (v := ?_) (a' := ?_) #[true, true, true, true, true, true, true, true, true, true] rfl rfl (any_of HT_.out (by kernel_rfl)) (fun _ _ _ h => h) (Or.inl ⟨by rfl, ?_⟩) ?_ ?_
          rotate_left
          · intro w'
            go_simp
            first | with_reducible rfl | (rw [if_neg (cat_le (by assumption) (by assumption))]) | (rw [if_neg (cat_le2 (by assumption) (by assumption))])
          rotate_left
          · simp only [Act.put, List.setIfInBounds_toArray, List.set_cons_zero, List.set_cons_succ, i64_w, i32_w]
            rfl
          refine done_ (done_of HT_.out (by kernel_rfl)) ?_
          try go_wp2
          go_ret
          exact ⟨by first | rfl | (simp [errW_none, errW_some] <;> rfl) | (simp [*, errW_none, errW_some] <;> rfl), by repeat (first | (with_reducible first | exact HB.out | apply below_alloc | apply pw_below_drewN | apply below_drew1) | exact HB.out)⟩
        · rw [if_neg c8] at H
          exact absurd H (by simp)
      · rw [if_neg c7] at H
        exact absurd H (by simp)

end Go.Proofs.Ytikicibbbeofnaa.D
