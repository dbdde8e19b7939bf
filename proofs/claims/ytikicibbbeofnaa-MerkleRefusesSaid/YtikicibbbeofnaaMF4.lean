-- Written by wip/hprint.py (this session's) with the kit's printer and contracts of our own. Not trusted: Lean checks it.
import Derived.Test.YtikicibbbeofnaaMF0
import Derived.Test.YtikicibbbeofnaaMF1
import Derived.Test.YtikicibbbeofnaaMF3
namespace Go.Proofs.Ytikicibbbeofnaa.MF
open Go.RowKit Go.Proofs.YtikicibbbeofnaaW.PrintWords Go.Proofs.YtikicibbbeofnaaW.PrintLast Go.Proofs.YtikicibbbeofnaaW.PrintMore
attribute [local go_sem] max2_int min2_int max_two min_two max_three min_three max_four min_four   -- for this text's walks alone
set_option linter.unusedVariables false
set_option linter.unusedSimpArgs false

/-! ### parolelaw04_examples: function 31 -/
def parolelaw04_examples.f (k : Nat)  : Option (Bool) := (some (([11, 22, 33] : List Int) : List Int)).bind fun y122 => ((digest_Join.f 0 11).bind fun t125 => ((digest_Join.f 0 22).bind fun t126 => ((digest_Join.f 0 33).bind fun t127 => ((parolelaw04_open.f y122 1).bind fun bt128 => ((parolelaw04_open.f y122 2).bind fun bt132 => ((digest_Join.f t125 t126).bind fun t138 => ((digest_Join.f t138 t127).bind fun t139 => ((digest_Join.f 3 t139).bind fun t140 => ((parolelaw04_open.f ([] : List Int) 0).bind fun bt141 => (if bt128.2 = 0 then ((paroleref04_Same.f k bt128.1 (([t125, t127] : List Int))).bind fun t149 => (if t149 = true then ((digest_Join.f t125 t126).bind fun t150 => ((paroleref04_Same.f k bt132.1 (([t150] : List Int))).bind fun t154 => (if t154 = true then ((merkle_Root.f y122).bind fun t155 => (if t155 = t140 then ((merkle_Root.f ([] : List Int)).bind fun t156 => ((digest_Join.f 0 0).bind fun t157 => (if t156 = t157 then (if bt141.2 = 1 then ((parolelaw04_check.f t140 3 1 22 bt128.1).bind fun t158 => (if t158 = 0 then ((parolelaw04_check.f t140 3 1 23 bt128.1).bind fun t159 => (some (t159 == 40))) else (none))) else (none)) else (none)))) else (none))) else (none)))) else (none))) else (none)))))))))))
theorem parolelaw04_examples.mono : ∀ k, LeO (parolelaw04_examples.f k ) (parolelaw04_examples.f (k + 1) ) := by
  intro  k
  unfold parolelaw04_examples.f
  repeat' first
      | (with_reducible exact paroleref04_Same.mono _ _ _)
      | (with_reducible exact LeO.refl _)
      | (with_reducible exact LeO.none _)
      | (with_reducible refine LeO.ite ?_ ?_)
      | (with_reducible refine LeO.bind ?_ (fun _ => ?_))
      | exact paroleref04_Same.mono _ _ _
      | exact LeO.none _
      | refine LeO.ite ?_ ?_
      | refine LeO.bind ?_ (fun _ => ?_)
def parolelaw04_examples.T6 : Bool × List (List Nat × List Nat) := (true, [([], []), ([0], [0]), ([1], [1]), ([2], [2]), ([3], [3]), ([4, 3], [3, 4]), ([3], [3]), ([3], [3]), ([6, 7, 3], [3, 6, 7]), ([5, 8, 3, 3], [3, 5, 8]), ([3, 9], [3, 9]), ([10, 9], [10]), ([11], [11]), ([12, 11], [11, 12]), ([11], [11]), ([11], [11]), ([14, 15, 11, 11], [11, 14, 15]), ([16, 11], [11, 16]), ([13, 17, 16, 11], [11, 13, 17]), ([11, 18], [11, 18]), ([19, 18], [19]), ([20], [20]), ([21, 20, 20], [20, 21]), ([20], [20]), ([22, 23, 20], [20, 22, 23]), ([20, 24], [20, 24]), ([25, 22], [25]), ([26, 26], [26]), ([27, 26], [26]), ([27, 28, 26], [26, 27, 28]), ([26, 29], [26, 29]), ([30, 28], [30]), ([31], [31]), ([32, 31], [31, 32]), ([33, 31], [31, 33]), ([31, 34], [31, 34]), ([35, 31], [35]), ([36], [36]), ([36], [36]), ([38, 36], [36, 38]), ([39, 36], [36, 39]), ([37, 40, 36, 36], [36, 37, 40]), ([41, 36], [36, 41]), ([36, 42], [36, 42]), ([43, 41], [43]), ([44], [44]), ([44], [44]), ([46, 44], [44, 46]), ([47, 44], [44, 47]), ([45, 48, 44, 44], [44, 45, 48]), ([49, 44], [44, 49]), ([44, 50], [44, 50]), ([51, 49, 0, 1, 2, 3, 4, 5, 6, 7, 8, 9, 10, 11, 12, 13, 14, 15, 16, 17, 18, 19, 20, 21, 22, 23, 24, 25, 26, 27, 28, 29, 30, 31, 32, 33, 34, 35, 36, 37, 38, 39, 40, 41, 42, 43, 44, 45, 46, 47, 48, 49, 50, 51], [51])])
def parolelaw04_examples.B6 : List Nat := [0, 1, 3, 7, 15, 31, 15, 15, 207, 511, 1023, 2047, 4095, 8191, 4095, 4095, 53247, 118783, 262143, 524287, 1048575, 2097151, 4194303, 2097151, 16777215, 33554431, 67108863, 134217727, 268435455, 536870911, 1073741823, 2147483647, 4294967295, 8589934591, 17179869183, 34359738367, 68719476735, 137438953471, 137438953471, 412316860415, 962072674303, 2199023255551, 4398046511103, 8796093022207, 17592186044415, 35184372088831, 35184372088831, 105553116266495, 246290604621823, 562949953421311, 1125899906842623, 2251799813685247, 4503599627370495]
theorem parolelaw04_examples.tab6 : rtab .any (opsOf Try.f31 6) = parolelaw04_examples.T6 := by kernel_rfl
theorem parolelaw04_examples.bits6 : waitsOk parolelaw04_examples.T6.2 parolelaw04_examples.B6 = true := by kernel_rfl
set_option maxHeartbeats 8000000 in
set_option maxRecDepth 100000 in
theorem parolelaw04_examples.calls (k : Nat)  (r : Bool) (w : World) (h : parolelaw04_examples.f k  = some r) :
    Calls Try.prog 31 #[] w fun e w' => e = .returned (.bool r) ∧ Below w.heap.size w w' := by
  have hu46 := Try.underlying46
  have hu50 := Try.underlying50
  have HB := Aside0.mk (Below.refl w.heap.size w)
  have H : ((some (([11, 22, 33] : List Int) : List Int)).bind fun y122 => ((digest_Join.f 0 11).bind fun t125 => ((digest_Join.f 0 22).bind fun t126 => ((digest_Join.f 0 33).bind fun t127 => ((parolelaw04_open.f y122 1).bind fun bt128 => ((parolelaw04_open.f y122 2).bind fun bt132 => ((digest_Join.f t125 t126).bind fun t138 => ((digest_Join.f t138 t127).bind fun t139 => ((digest_Join.f 3 t139).bind fun t140 => ((parolelaw04_open.f ([] : List Int) 0).bind fun bt141 => (if bt128.2 = 0 then ((paroleref04_Same.f k bt128.1 (([t125, t127] : List Int))).bind fun t149 => (if t149 = true then ((digest_Join.f t125 t126).bind fun t150 => ((paroleref04_Same.f k bt132.1 (([t150] : List Int))).bind fun t154 => (if t154 = true then ((merkle_Root.f y122).bind fun t155 => (if t155 = t140 then ((merkle_Root.f ([] : List Int)).bind fun t156 => ((digest_Join.f 0 0).bind fun t157 => (if t156 = t157 then (if bt141.2 = 1 then ((parolelaw04_check.f t140 3 1 22 bt128.1).bind fun t158 => (if t158 = 0 then ((parolelaw04_check.f t140 3 1 23 bt128.1).bind fun t159 => (some (t159 == 40))) else (none))) else (none)) else (none)))) else (none))) else (none)))) else (none))) else (none)))))))))))) = some r := h
  clear h
  obtain ⟨y122, hy122⟩ : ∃ y_ : List Int, y_ = (([11, 22, 33] : List Int)) := ⟨_, rfl⟩
  replace H : ((digest_Join.f 0 11).bind fun t125 => ((digest_Join.f 0 22).bind fun t126 => ((digest_Join.f 0 33).bind fun t127 => ((parolelaw04_open.f y122 1).bind fun bt128 => ((parolelaw04_open.f y122 2).bind fun bt132 => ((digest_Join.f t125 t126).bind fun t138 => ((digest_Join.f t138 t127).bind fun t139 => ((digest_Join.f 3 t139).bind fun t140 => ((parolelaw04_open.f ([] : List Int) 0).bind fun bt141 => (if bt128.2 = 0 then ((paroleref04_Same.f k bt128.1 (([t125, t127] : List Int))).bind fun t149 => (if t149 = true then ((digest_Join.f t125 t126).bind fun t150 => ((paroleref04_Same.f k bt132.1 (([t150] : List Int))).bind fun t154 => (if t154 = true then ((merkle_Root.f y122).bind fun t155 => (if t155 = t140 then ((merkle_Root.f ([] : List Int)).bind fun t156 => ((digest_Join.f 0 0).bind fun t157 => (if t156 = t157 then (if bt141.2 = 1 then ((parolelaw04_check.f t140 3 1 22 bt128.1).bind fun t158 => (if t158 = 0 then ((parolelaw04_check.f t140 3 1 23 bt128.1).bind fun t159 => (some (t159 == 40))) else (none))) else (none)) else (none)))) else (none))) else (none)))) else (none))) else (none))))))))))) = some r := by first | (rw [hy122]; with_reducible exact H) | (have H2_ := (Option.bind_some _ _).symm.trans H; rw [hy122]; with_reducible exact H2_) | (have H2_ := (Option.bind_some _ _).symm.trans H; with_reducible exact H2_) | with_reducible exact H | (rw [hy122]; exact H) | exact H
  have Ny122 := Aside0.mk hy122
  clear hy122
  replace H := Option.bind_eq_some_iff.mp H
  obtain ⟨t125, A10, H⟩ := H
  replace H : ((digest_Join.f 0 22).bind fun t126 => ((digest_Join.f 0 33).bind fun t127 => ((parolelaw04_open.f y122 1).bind fun bt128 => ((parolelaw04_open.f y122 2).bind fun bt132 => ((digest_Join.f t125 t126).bind fun t138 => ((digest_Join.f t138 t127).bind fun t139 => ((digest_Join.f 3 t139).bind fun t140 => ((parolelaw04_open.f ([] : List Int) 0).bind fun bt141 => (if bt128.2 = 0 then ((paroleref04_Same.f k bt128.1 (([t125, t127] : List Int))).bind fun t149 => (if t149 = true then ((digest_Join.f t125 t126).bind fun t150 => ((paroleref04_Same.f k bt132.1 (([t150] : List Int))).bind fun t154 => (if t154 = true then ((merkle_Root.f y122).bind fun t155 => (if t155 = t140 then ((merkle_Root.f ([] : List Int)).bind fun t156 => ((digest_Join.f 0 0).bind fun t157 => (if t156 = t157 then (if bt141.2 = 1 then ((parolelaw04_check.f t140 3 1 22 bt128.1).bind fun t158 => (if t158 = 0 then ((parolelaw04_check.f t140 3 1 23 bt128.1).bind fun t159 => (some (t159 == 40))) else (none))) else (none)) else (none)))) else (none))) else (none)))) else (none))) else (none)))))))))) = some r := H
  have A1 := Aside0.mk A10
  clear A10
  replace H := Option.bind_eq_some_iff.mp H
  obtain ⟨t126, A20, H⟩ := H
  replace H : ((digest_Join.f 0 33).bind fun t127 => ((parolelaw04_open.f y122 1).bind fun bt128 => ((parolelaw04_open.f y122 2).bind fun bt132 => ((digest_Join.f t125 t126).bind fun t138 => ((digest_Join.f t138 t127).bind fun t139 => ((digest_Join.f 3 t139).bind fun t140 => ((parolelaw04_open.f ([] : List Int) 0).bind fun bt141 => (if bt128.2 = 0 then ((paroleref04_Same.f k bt128.1 (([t125, t127] : List Int))).bind fun t149 => (if t149 = true then ((digest_Join.f t125 t126).bind fun t150 => ((paroleref04_Same.f k bt132.1 (([t150] : List Int))).bind fun t154 => (if t154 = true then ((merkle_Root.f y122).bind fun t155 => (if t155 = t140 then ((merkle_Root.f ([] : List Int)).bind fun t156 => ((digest_Join.f 0 0).bind fun t157 => (if t156 = t157 then (if bt141.2 = 1 then ((parolelaw04_check.f t140 3 1 22 bt128.1).bind fun t158 => (if t158 = 0 then ((parolelaw04_check.f t140 3 1 23 bt128.1).bind fun t159 => (some (t159 == 40))) else (none))) else (none)) else (none)))) else (none))) else (none)))) else (none))) else (none))))))))) = some r := H
  have A2 := Aside0.mk A20
  clear A20
  replace H := Option.bind_eq_some_iff.mp H
  obtain ⟨t127, A30, H⟩ := H
  replace H : ((parolelaw04_open.f y122 1).bind fun bt128 => ((parolelaw04_open.f y122 2).bind fun bt132 => ((digest_Join.f t125 t126).bind fun t138 => ((digest_Join.f t138 t127).bind fun t139 => ((digest_Join.f 3 t139).bind fun t140 => ((parolelaw04_open.f ([] : List Int) 0).bind fun bt141 => (if bt128.2 = 0 then ((paroleref04_Same.f k bt128.1 (([t125, t127] : List Int))).bind fun t149 => (if t149 = true then ((digest_Join.f t125 t126).bind fun t150 => ((paroleref04_Same.f k bt132.1 (([t150] : List Int))).bind fun t154 => (if t154 = true then ((merkle_Root.f y122).bind fun t155 => (if t155 = t140 then ((merkle_Root.f ([] : List Int)).bind fun t156 => ((digest_Join.f 0 0).bind fun t157 => (if t156 = t157 then (if bt141.2 = 1 then ((parolelaw04_check.f t140 3 1 22 bt128.1).bind fun t158 => (if t158 = 0 then ((parolelaw04_check.f t140 3 1 23 bt128.1).bind fun t159 => (some (t159 == 40))) else (none))) else (none)) else (none)))) else (none))) else (none)))) else (none))) else (none)))))))) = some r := H
  have A3 := Aside0.mk A30
  clear A30
  replace H := Option.bind_eq_some_iff.mp H
  obtain ⟨⟨t128, t131⟩, A40, H⟩ := H
  replace H : ((parolelaw04_open.f y122 2).bind fun bt132 => ((digest_Join.f t125 t126).bind fun t138 => ((digest_Join.f t138 t127).bind fun t139 => ((digest_Join.f 3 t139).bind fun t140 => ((parolelaw04_open.f ([] : List Int) 0).bind fun bt141 => (if t131 = 0 then ((paroleref04_Same.f k t128 (([t125, t127] : List Int))).bind fun t149 => (if t149 = true then ((digest_Join.f t125 t126).bind fun t150 => ((paroleref04_Same.f k bt132.1 (([t150] : List Int))).bind fun t154 => (if t154 = true then ((merkle_Root.f y122).bind fun t155 => (if t155 = t140 then ((merkle_Root.f ([] : List Int)).bind fun t156 => ((digest_Join.f 0 0).bind fun t157 => (if t156 = t157 then (if bt141.2 = 1 then ((parolelaw04_check.f t140 3 1 22 t128).bind fun t158 => (if t158 = 0 then ((parolelaw04_check.f t140 3 1 23 t128).bind fun t159 => (some (t159 == 40))) else (none))) else (none)) else (none)))) else (none))) else (none)))) else (none))) else (none))))))) = some r := H
  have A4 := Aside0.mk A40
  clear A40
  replace H := Option.bind_eq_some_iff.mp H
  obtain ⟨⟨t132, t135⟩, A50, H⟩ := H
  replace H : ((digest_Join.f t125 t126).bind fun t138 => ((digest_Join.f t138 t127).bind fun t139 => ((digest_Join.f 3 t139).bind fun t140 => ((parolelaw04_open.f ([] : List Int) 0).bind fun bt141 => (if t131 = 0 then ((paroleref04_Same.f k t128 (([t125, t127] : List Int))).bind fun t149 => (if t149 = true then ((digest_Join.f t125 t126).bind fun t150 => ((paroleref04_Same.f k t132 (([t150] : List Int))).bind fun t154 => (if t154 = true then ((merkle_Root.f y122).bind fun t155 => (if t155 = t140 then ((merkle_Root.f ([] : List Int)).bind fun t156 => ((digest_Join.f 0 0).bind fun t157 => (if t156 = t157 then (if bt141.2 = 1 then ((parolelaw04_check.f t140 3 1 22 t128).bind fun t158 => (if t158 = 0 then ((parolelaw04_check.f t140 3 1 23 t128).bind fun t159 => (some (t159 == 40))) else (none))) else (none)) else (none)))) else (none))) else (none)))) else (none))) else (none)))))) = some r := H
  have A5 := Aside0.mk A50
  clear A50
  replace H := Option.bind_eq_some_iff.mp H
  obtain ⟨t138, A60, H⟩ := H
  replace H : ((digest_Join.f t138 t127).bind fun t139 => ((digest_Join.f 3 t139).bind fun t140 => ((parolelaw04_open.f ([] : List Int) 0).bind fun bt141 => (if t131 = 0 then ((paroleref04_Same.f k t128 (([t125, t127] : List Int))).bind fun t149 => (if t149 = true then ((digest_Join.f t125 t126).bind fun t150 => ((paroleref04_Same.f k t132 (([t150] : List Int))).bind fun t154 => (if t154 = true then ((merkle_Root.f y122).bind fun t155 => (if t155 = t140 then ((merkle_Root.f ([] : List Int)).bind fun t156 => ((digest_Join.f 0 0).bind fun t157 => (if t156 = t157 then (if bt141.2 = 1 then ((parolelaw04_check.f t140 3 1 22 t128).bind fun t158 => (if t158 = 0 then ((parolelaw04_check.f t140 3 1 23 t128).bind fun t159 => (some (t159 == 40))) else (none))) else (none)) else (none)))) else (none))) else (none)))) else (none))) else (none))))) = some r := H
  have A6 := Aside0.mk A60
  clear A60
  replace H := Option.bind_eq_some_iff.mp H
  obtain ⟨t139, A70, H⟩ := H
  replace H : ((digest_Join.f 3 t139).bind fun t140 => ((parolelaw04_open.f ([] : List Int) 0).bind fun bt141 => (if t131 = 0 then ((paroleref04_Same.f k t128 (([t125, t127] : List Int))).bind fun t149 => (if t149 = true then ((digest_Join.f t125 t126).bind fun t150 => ((paroleref04_Same.f k t132 (([t150] : List Int))).bind fun t154 => (if t154 = true then ((merkle_Root.f y122).bind fun t155 => (if t155 = t140 then ((merkle_Root.f ([] : List Int)).bind fun t156 => ((digest_Join.f 0 0).bind fun t157 => (if t156 = t157 then (if bt141.2 = 1 then ((parolelaw04_check.f t140 3 1 22 t128).bind fun t158 => (if t158 = 0 then ((parolelaw04_check.f t140 3 1 23 t128).bind fun t159 => (some (t159 == 40))) else (none))) else (none)) else (none)))) else (none))) else (none)))) else (none))) else (none)))) = some r := H
  have A7 := Aside0.mk A70
  clear A70
  replace H := Option.bind_eq_some_iff.mp H
  obtain ⟨t140, A80, H⟩ := H
  replace H : ((parolelaw04_open.f ([] : List Int) 0).bind fun bt141 => (if t131 = 0 then ((paroleref04_Same.f k t128 (([t125, t127] : List Int))).bind fun t149 => (if t149 = true then ((digest_Join.f t125 t126).bind fun t150 => ((paroleref04_Same.f k t132 (([t150] : List Int))).bind fun t154 => (if t154 = true then ((merkle_Root.f y122).bind fun t155 => (if t155 = t140 then ((merkle_Root.f ([] : List Int)).bind fun t156 => ((digest_Join.f 0 0).bind fun t157 => (if t156 = t157 then (if bt141.2 = 1 then ((parolelaw04_check.f t140 3 1 22 t128).bind fun t158 => (if t158 = 0 then ((parolelaw04_check.f t140 3 1 23 t128).bind fun t159 => (some (t159 == 40))) else (none))) else (none)) else (none)))) else (none))) else (none)))) else (none))) else (none))) = some r := H
  have A8 := Aside0.mk A80
  clear A80
  replace H := Option.bind_eq_some_iff.mp H
  obtain ⟨⟨t141, t144⟩, A90, H⟩ := H
  replace H : (if t131 = 0 then ((paroleref04_Same.f k t128 (([t125, t127] : List Int))).bind fun t149 => (if t149 = true then ((digest_Join.f t125 t126).bind fun t150 => ((paroleref04_Same.f k t132 (([t150] : List Int))).bind fun t154 => (if t154 = true then ((merkle_Root.f y122).bind fun t155 => (if t155 = t140 then ((merkle_Root.f ([] : List Int)).bind fun t156 => ((digest_Join.f 0 0).bind fun t157 => (if t156 = t157 then (if t144 = 1 then ((parolelaw04_check.f t140 3 1 22 t128).bind fun t158 => (if t158 = 0 then ((parolelaw04_check.f t140 3 1 23 t128).bind fun t159 => (some (t159 == 40))) else (none))) else (none)) else (none)))) else (none))) else (none)))) else (none))) else (none)) = some r := H
  have A9 := Aside0.mk A90
  clear A90
  by_cases c10 : t131 = 0
  · rw [if_pos c10] at H
    have c10b0 : (t131 == 0) = true := beq_iff_eq.mpr c10
    have c10b1 : (t131 != 0) = false := bne_eq_false_iff_eq.mpr c10
    clear c10
    obtain ⟨y146, hy146⟩ : ∃ y_ : List Int, y_ = (([t125, t127] : List Int)) := ⟨_, rfl⟩
    replace H : ((paroleref04_Same.f k t128 y146).bind fun t149 => (if t149 = true then ((digest_Join.f t125 t126).bind fun t150 => ((paroleref04_Same.f k t132 (([t150] : List Int))).bind fun t154 => (if t154 = true then ((merkle_Root.f y122).bind fun t155 => (if t155 = t140 then ((merkle_Root.f ([] : List Int)).bind fun t156 => ((digest_Join.f 0 0).bind fun t157 => (if t156 = t157 then (if t144 = 1 then ((parolelaw04_check.f t140 3 1 22 t128).bind fun t158 => (if t158 = 0 then ((parolelaw04_check.f t140 3 1 23 t128).bind fun t159 => (some (t159 == 40))) else (none))) else (none)) else (none)))) else (none))) else (none)))) else (none))) = some r := by first | (rw [hy146]; with_reducible exact H) | (have H2_ := (Option.bind_some _ _).symm.trans H; rw [hy146]; with_reducible exact H2_) | (have H2_ := (Option.bind_some _ _).symm.trans H; with_reducible exact H2_) | with_reducible exact H | (rw [hy146]; exact H) | exact H
    have Ny146 := Aside0.mk hy146
    clear hy146
    replace H := Option.bind_eq_some_iff.mp H
    obtain ⟨t149, A110, H⟩ := H
    replace H : (if t149 = true then ((digest_Join.f t125 t126).bind fun t150 => ((paroleref04_Same.f k t132 (([t150] : List Int))).bind fun t154 => (if t154 = true then ((merkle_Root.f y122).bind fun t155 => (if t155 = t140 then ((merkle_Root.f ([] : List Int)).bind fun t156 => ((digest_Join.f 0 0).bind fun t157 => (if t156 = t157 then (if t144 = 1 then ((parolelaw04_check.f t140 3 1 22 t128).bind fun t158 => (if t158 = 0 then ((parolelaw04_check.f t140 3 1 23 t128).bind fun t159 => (some (t159 == 40))) else (none))) else (none)) else (none)))) else (none))) else (none)))) else (none)) = some r := H
    have A11 := Aside0.mk A110
    clear A110
    by_cases c12 : t149 = true
    · subst c12
      have H1 : ((digest_Join.f t125 t126).bind fun t150 => ((paroleref04_Same.f k t132 (([t150] : List Int))).bind fun t154 => (if t154 = true then ((merkle_Root.f y122).bind fun t155 => (if t155 = t140 then ((merkle_Root.f ([] : List Int)).bind fun t156 => ((digest_Join.f 0 0).bind fun t157 => (if t156 = t157 then (if t144 = 1 then ((parolelaw04_check.f t140 3 1 22 t128).bind fun t158 => (if t158 = 0 then ((parolelaw04_check.f t140 3 1 23 t128).bind fun t159 => (some (t159 == 40))) else (none))) else (none)) else (none)))) else (none))) else (none)))) = some r := by rw [if_pos rfl] at H; exact H
      clear H
      have H := H1
      clear H1
      replace H := Option.bind_eq_some_iff.mp H
      obtain ⟨t150, A130, H⟩ := H
      replace H : ((paroleref04_Same.f k t132 (([t150] : List Int))).bind fun t154 => (if t154 = true then ((merkle_Root.f y122).bind fun t155 => (if t155 = t140 then ((merkle_Root.f ([] : List Int)).bind fun t156 => ((digest_Join.f 0 0).bind fun t157 => (if t156 = t157 then (if t144 = 1 then ((parolelaw04_check.f t140 3 1 22 t128).bind fun t158 => (if t158 = 0 then ((parolelaw04_check.f t140 3 1 23 t128).bind fun t159 => (some (t159 == 40))) else (none))) else (none)) else (none)))) else (none))) else (none))) = some r := H
      have A13 := Aside0.mk A130
      clear A130
      obtain ⟨y151, hy151⟩ : ∃ y_ : List Int, y_ = (([t150] : List Int)) := ⟨_, rfl⟩
      replace H : ((paroleref04_Same.f k t132 y151).bind fun t154 => (if t154 = true then ((merkle_Root.f y122).bind fun t155 => (if t155 = t140 then ((merkle_Root.f ([] : List Int)).bind fun t156 => ((digest_Join.f 0 0).bind fun t157 => (if t156 = t157 then (if t144 = 1 then ((parolelaw04_check.f t140 3 1 22 t128).bind fun t158 => (if t158 = 0 then ((parolelaw04_check.f t140 3 1 23 t128).bind fun t159 => (some (t159 == 40))) else (none))) else (none)) else (none)))) else (none))) else (none))) = some r := by first | (rw [hy151]; with_reducible exact H) | (have H2_ := (Option.bind_some _ _).symm.trans H; rw [hy151]; with_reducible exact H2_) | (have H2_ := (Option.bind_some _ _).symm.trans H; with_reducible exact H2_) | with_reducible exact H | (rw [hy151]; exact H) | exact H
      have Ny151 := Aside0.mk hy151
      clear hy151
      replace H := Option.bind_eq_some_iff.mp H
      obtain ⟨t154, A140, H⟩ := H
      replace H : (if t154 = true then ((merkle_Root.f y122).bind fun t155 => (if t155 = t140 then ((merkle_Root.f ([] : List Int)).bind fun t156 => ((digest_Join.f 0 0).bind fun t157 => (if t156 = t157 then (if t144 = 1 then ((parolelaw04_check.f t140 3 1 22 t128).bind fun t158 => (if t158 = 0 then ((parolelaw04_check.f t140 3 1 23 t128).bind fun t159 => (some (t159 == 40))) else (none))) else (none)) else (none)))) else (none))) else (none)) = some r := H
      have A14 := Aside0.mk A140
      clear A140
      by_cases c15 : t154 = true
      · subst c15
        have H1 : ((merkle_Root.f y122).bind fun t155 => (if t155 = t140 then ((merkle_Root.f ([] : List Int)).bind fun t156 => ((digest_Join.f 0 0).bind fun t157 => (if t156 = t157 then (if t144 = 1 then ((parolelaw04_check.f t140 3 1 22 t128).bind fun t158 => (if t158 = 0 then ((parolelaw04_check.f t140 3 1 23 t128).bind fun t159 => (some (t159 == 40))) else (none))) else (none)) else (none)))) else (none))) = some r := by rw [if_pos rfl] at H; exact H
        clear H
        have H := H1
        clear H1
        replace H := Option.bind_eq_some_iff.mp H
        obtain ⟨t155, A160, H⟩ := H
        replace H : (if t155 = t140 then ((merkle_Root.f ([] : List Int)).bind fun t156 => ((digest_Join.f 0 0).bind fun t157 => (if t156 = t157 then (if t144 = 1 then ((parolelaw04_check.f t140 3 1 22 t128).bind fun t158 => (if t158 = 0 then ((parolelaw04_check.f t140 3 1 23 t128).bind fun t159 => (some (t159 == 40))) else (none))) else (none)) else (none)))) else (none)) = some r := H
        have A16 := Aside0.mk A160
        clear A160
        by_cases c17 : t155 = t140
        · rw [if_pos c17] at H
          have c17b0 : (t155 == t140) = true := beq_iff_eq.mpr c17
          have c17b1 : (t155 != t140) = false := bne_eq_false_iff_eq.mpr c17
          clear c17
          replace H := Option.bind_eq_some_iff.mp H
          obtain ⟨t156, A180, H⟩ := H
          replace H : ((digest_Join.f 0 0).bind fun t157 => (if t156 = t157 then (if t144 = 1 then ((parolelaw04_check.f t140 3 1 22 t128).bind fun t158 => (if t158 = 0 then ((parolelaw04_check.f t140 3 1 23 t128).bind fun t159 => (some (t159 == 40))) else (none))) else (none)) else (none))) = some r := H
          have A18 := Aside0.mk A180
          clear A180
          replace H := Option.bind_eq_some_iff.mp H
          obtain ⟨t157, A190, H⟩ := H
          replace H : (if t156 = t157 then (if t144 = 1 then ((parolelaw04_check.f t140 3 1 22 t128).bind fun t158 => (if t158 = 0 then ((parolelaw04_check.f t140 3 1 23 t128).bind fun t159 => (some (t159 == 40))) else (none))) else (none)) else (none)) = some r := H
          have A19 := Aside0.mk A190
          clear A190
          by_cases c20 : t156 = t157
          · rw [if_pos c20] at H
            have c20b0 : (t156 == t157) = true := beq_iff_eq.mpr c20
            have c20b1 : (t156 != t157) = false := bne_eq_false_iff_eq.mpr c20
            clear c20
            by_cases c21 : t144 = 1
            · rw [if_pos c21] at H
              have c21b0 : (t144 == 1) = true := beq_iff_eq.mpr c21
              have c21b1 : (t144 != 1) = false := bne_eq_false_iff_eq.mpr c21
              clear c21
              replace H := Option.bind_eq_some_iff.mp H
              obtain ⟨t158, A220, H⟩ := H
              replace H : (if t158 = 0 then ((parolelaw04_check.f t140 3 1 23 t128).bind fun t159 => (some (t159 == 40))) else (none)) = some r := H
              have A22 := Aside0.mk A220
              clear A220
              by_cases c23 : t158 = 0
              · rw [if_pos c23] at H
                have c23b0 : (t158 == 0) = true := beq_iff_eq.mpr c23
                have c23b1 : (t158 != 0) = false := bne_eq_false_iff_eq.mpr c23
                clear c23
                replace H := Option.bind_eq_some_iff.mp H
                obtain ⟨t159, A240, H⟩ := H
                replace H : (some (t159 == 40)) = some r := H
                have A24 := Aside0.mk A240
                clear A240
                obtain rfl := Option.some.inj H
                go_enter Try.func31, Try.ntmps31
                try go_wp2_with (first | ((with_reducible refine gate_dst (N := 9) rfl ?_); (try (refine gate_guard (by rfl) ?_; dsimp only)); refine Kd.R_lit (Kd.int .u64) _ 22 ?hg (N := 9) ?hd (xs := ([11, 22, 33] : List Int)) (inner := [.int .u64 11, .int .u64 22, .int .u64 33]) (ok := fun _ => True) (okp := fun _ => True) ?hr ?hp (fun _ hk => hk) trivial (Below.refl _ _) (Nat.le_refl _) (by simp) ?_; (case hd => rfl); (case hg => rfl); (case hr => first | (go_simp; done) | (go_simp; rfl)); (case hp => exact (Reps.one (show Kd.M (Kd.int .u64) _ _ _ 11 [.int .u64 11] from rfl) (Reps.one (show Kd.M (Kd.int .u64) _ _ _ 22 [.int .u64 22] from rfl) (Reps.one (show Kd.M (Kd.int .u64) _ _ _ 33 [.int .u64 33] from rfl) (Reps.none _ _))))); intro v123 w25 ho26 hb hg_ hnew_; clear hg_ hnew_; (first | rw [← Ny122.out] at ho26 | (simp only [Int.reduceToNat] at ho26; rw [← Ny122.out] at ho26)); have n0_ := Aside0.mk (Kd.R_lower ho26 (below_size (by repeat (first | (with_reducible first | exact HB.out | apply below_alloc | apply pw_below_drewN | apply below_drew1) | exact HB.out)))); have n1_ := Aside0.mk (below_step (by repeat (first | (with_reducible first | exact HB.out | apply below_alloc | apply pw_below_drewN | apply below_drew1) | exact HB.out)) hb); clear HB; have HO124 := n0_; have HB := n1_; clear n0_ n1_; clear hb ho26) | ((with_reducible refine gate_callee (f := 21) rfl ?_); refine goesL_ (some 10) rfl rfl Try.func21 (by kernel_rfl) rfl #[.int .u64 0, .int .u64 11] rfl (by (try simp only [List.map_toArray, List.map_cons, List.map_nil]); first | done | rfl | (simp only [List.length_drop, List.length_take]; rfl)) ?_; (with_reducible refine (digest_Join.calls 0 11 t125 _ A1.out).mono ?_); rintro e w' ⟨rfl, ⟨nd, rfl⟩⟩; refine ⟨_, rfl, ?_⟩; (try (rw [drewN_self w25]; generalize hq_ : World.drewN w25 _ = w25; have n0_ : Aside0 (Kd.R (Kd.int .u64) 22 w25 w.heap.size (fun _ => True) v123 y122) := ⟨by rw [← hq_]; exact (by (with_reducible repeat (first | apply Kd.R_alloc | apply Kd.R_drewN | apply Kd.R_drew)); exact HO124.out)⟩; have n1_ : Aside0 (Below w.heap.size w w25) := ⟨by rw [← hq_]; exact (by repeat (first | (with_reducible first | exact HB.out | apply below_alloc | apply pw_below_drewN | apply below_drew1) | exact HB.out))⟩; clear HO124 HB hq_; have HO124 := n0_; have HB := n1_; clear n0_ n1_))) | ((with_reducible refine gate_callee (f := 21) rfl ?_); refine goesL_ (some 11) rfl rfl Try.func21 (by kernel_rfl) rfl #[.int .u64 0, .int .u64 22] rfl (by (try simp only [List.map_toArray, List.map_cons, List.map_nil]); first | done | rfl | (simp only [List.length_drop, List.length_take]; rfl)) ?_; (with_reducible refine (digest_Join.calls 0 22 t126 _ A2.out).mono ?_); rintro e w' ⟨rfl, ⟨nd, rfl⟩⟩; refine ⟨_, rfl, ?_⟩; (try (rw [drewN_self w25]; generalize hq_ : World.drewN w25 _ = w25; have n0_ : Aside0 (Kd.R (Kd.int .u64) 22 w25 w.heap.size (fun _ => True) v123 y122) := ⟨by rw [← hq_]; exact (by (with_reducible repeat (first | apply Kd.R_alloc | apply Kd.R_drewN | apply Kd.R_drew)); exact HO124.out)⟩; have n1_ : Aside0 (Below w.heap.size w w25) := ⟨by rw [← hq_]; exact (by repeat (first | (with_reducible first | exact HB.out | apply below_alloc | apply pw_below_drewN | apply below_drew1) | exact HB.out))⟩; clear HO124 HB hq_; have HO124 := n0_; have HB := n1_; clear n0_ n1_))) | ((with_reducible refine gate_callee (f := 21) rfl ?_); refine goesL_ (some 12) rfl rfl Try.func21 (by kernel_rfl) rfl #[.int .u64 0, .int .u64 33] rfl (by (try simp only [List.map_toArray, List.map_cons, List.map_nil]); first | done | rfl | (simp only [List.length_drop, List.length_take]; rfl)) ?_; (with_reducible refine (digest_Join.calls 0 33 t127 _ A3.out).mono ?_); rintro e w' ⟨rfl, ⟨nd, rfl⟩⟩; refine ⟨_, rfl, ?_⟩; (try (rw [drewN_self w25]; generalize hq_ : World.drewN w25 _ = w25; have n0_ : Aside0 (Kd.R (Kd.int .u64) 22 w25 w.heap.size (fun _ => True) v123 y122) := ⟨by rw [← hq_]; exact (by (with_reducible repeat (first | apply Kd.R_alloc | apply Kd.R_drewN | apply Kd.R_drew)); exact HO124.out)⟩; have n1_ : Aside0 (Below w.heap.size w w25) := ⟨by rw [← hq_]; exact (by repeat (first | (with_reducible first | exact HB.out | apply below_alloc | apply pw_below_drewN | apply below_drew1) | exact HB.out))⟩; clear HO124 HB hq_; have HO124 := n0_; have HB := n1_; clear n0_ n1_)); obtain ⟨Ao27, co27, eo27⟩ := Kd.R_slice HO124.out; subst eo27) | ((with_reducible refine gate_callee (f := 34) rfl ?_); refine goesL_ (some 14) rfl rfl Try.func34 (by kernel_rfl) rfl #[.slice Ao27 y122.length co27, .int .i64 1] rfl (by (try simp only [List.map_toArray, List.map_cons, List.map_nil]); first | done | rfl | (simp only [List.length_drop, List.length_take]; rfl)) ?_; (with_reducible refine (parolelaw04_open.calls _ _ y122 1 t128 t131 _ ?side1 ?side2 A4.out).mono ?_); (case side1 => repeat (first | exact (Kd.R_reads' HO124.out).2.2 | (with_reducible refine Kd.C_alloc ?_ _) | (with_reducible refine Kd.C_drewN ?_ _) | (with_reducible refine Kd.C_drew ?_))); (case side2 => exact (Kd.R_reads' HO124.out).2.1); rintro e w28 ⟨v129, rfl, ho0, hb⟩; refine ⟨_, rfl, ?_⟩; have n0_ := Aside0.mk (Kd.R_elder' (by (with_reducible repeat (first | apply Kd.R_alloc | apply Kd.R_drewN | apply Kd.R_drew)); exact HO124.out) (Kd.R_base ho0) hb); have n1_ := Aside0.mk (Kd.R_lower (Kd.R_new' ho0 (Kd.R_lt (by (with_reducible repeat (first | apply Kd.R_alloc | apply Kd.R_drewN | apply Kd.R_drew)); exact HO124.out))) (below_size (by repeat (first | (with_reducible first | exact HB.out | apply below_alloc | apply pw_below_drewN | apply below_drew1) | exact HB.out)))); have n2_ := Aside0.mk (below_step (by repeat (first | (with_reducible first | exact HB.out | apply below_alloc | apply pw_below_drewN | apply below_drew1) | exact HB.out)) hb); clear HO124; clear HB; have HO124 := n0_; have HO130 := n1_; have HB := n2_; clear n0_ n1_ n2_; (try clear hb); (try clear hb2); (try clear hk); (try clear hi); (try clear ho0)) | ((with_reducible refine gate_callee (f := 34) rfl ?_); refine goesL_ (some 16) rfl rfl Try.func34 (by kernel_rfl) rfl #[.slice Ao27 y122.length co27, .int .i64 2] rfl (by (try simp only [List.map_toArray, List.map_cons, List.map_nil]); first | done | rfl | (simp only [List.length_drop, List.length_take]; rfl)) ?_; (with_reducible refine (parolelaw04_open.calls _ _ y122 2 t132 t135 _ ?side1 ?side2 A5.out).mono ?_); (case side1 => repeat (first | exact (Kd.R_reads' HO124.out).2.2 | (with_reducible refine Kd.C_alloc ?_ _) | (with_reducible refine Kd.C_drewN ?_ _) | (with_reducible refine Kd.C_drew ?_))); (case side2 => exact (Kd.R_reads' HO124.out).2.1); rintro e w29 ⟨v133, rfl, ho0, hb⟩; refine ⟨_, rfl, ?_⟩; have n0_ := Aside0.mk (Kd.R_elder' (by (with_reducible repeat (first | apply Kd.R_alloc | apply Kd.R_drewN | apply Kd.R_drew)); exact HO124.out) (Kd.R_base ho0) hb); have n1_ := Aside0.mk (Kd.R_elder' (by (with_reducible repeat (first | apply Kd.R_alloc | apply Kd.R_drewN | apply Kd.R_drew)); exact HO130.out) (Kd.R_base ho0) hb); have n2_ := Aside0.mk (Kd.R_lower (Kd.R_new' (Kd.R_new' ho0 (Kd.R_lt (by (with_reducible repeat (first | apply Kd.R_alloc | apply Kd.R_drewN | apply Kd.R_drew)); exact HO124.out))) (Kd.R_lt (by (with_reducible repeat (first | apply Kd.R_alloc | apply Kd.R_drewN | apply Kd.R_drew)); exact HO130.out))) (below_size (by repeat (first | (with_reducible first | exact HB.out | apply below_alloc | apply pw_below_drewN | apply below_drew1) | exact HB.out)))); have n3_ := Aside0.mk (below_step (by repeat (first | (with_reducible first | exact HB.out | apply below_alloc | apply pw_below_drewN | apply below_drew1) | exact HB.out)) hb); clear HO124; clear HO130; clear HB; have HO124 := n0_; have HO130 := n1_; have HO134 := n2_; have HB := n3_; clear n0_ n1_ n2_ n3_; (try clear hb); (try clear hb2); (try clear hk); (try clear hi); (try clear ho0)) | ((with_reducible refine gate_dst (N := 5) rfl ?_); (try (refine gate_guard (by rfl) ?_; dsimp only)); refine box_event ?hg (N := 5) ?hd (cs := #[.slice none 0 0, .int .i64 0]) (t := 46) ?hr ?_; (case hd => rfl); (case hg => rfl); (case hr => first | (go_simp; done) | (go_simp; rfl)); intro gb136 hg w30 hbox hb; have n0_ := Aside0.mk (Kd.R_below (by (with_reducible repeat (first | apply Kd.R_alloc | apply Kd.R_drewN | apply Kd.R_drew)); exact HO124.out) hb); have n1_ := Aside0.mk (Kd.R_below (by (with_reducible repeat (first | apply Kd.R_alloc | apply Kd.R_drewN | apply Kd.R_drew)); exact HO130.out) hb); have n2_ := Aside0.mk (Kd.R_below (by (with_reducible repeat (first | apply Kd.R_alloc | apply Kd.R_drewN | apply Kd.R_drew)); exact HO134.out) hb); have n3_ := Aside0.mk (below_step (by repeat (first | (with_reducible first | exact HB.out | apply below_alloc | apply pw_below_drewN | apply below_drew1) | exact HB.out)) hb); have n4_ := Aside0.mk (hbox); have n5_ := Aside0.mk ((by rw [hg]; exact (below_size (by repeat (first | (with_reducible first | exact HB.out | apply below_alloc | apply pw_below_drewN | apply below_drew1) | exact HB.out))) : w.heap.size ≤ gb136)); have n6_ := Aside0.mk ((by rw [hg]; exact (below_size (by repeat (first | (with_reducible first | exact HB.out | apply below_alloc | apply pw_below_drewN | apply below_drew1) | exact HB.out))) : w.heap.size ≤ gb136)); clear HO124; clear HO130; clear HO134; clear HB; have HO124 := n0_; have HO130 := n1_; have HO134 := n2_; have HB := n3_; have BK136 := n4_; have GW136 := n5_; have GE136 := n6_; clear n0_ n1_ n2_ n3_ n4_ n5_ n6_; clear hb hbox hg) | ((with_reducible refine gate_dst (N := 6) rfl ?_); (try (refine gate_guard (by rfl) ?_; dsimp only)); refine box_event ?hg (N := 6) ?hd (cs := #[.slice none 0 0, .int .i64 0]) (t := 46) ?hr ?_; (case hd => rfl); (case hg => rfl); (case hr => first | (go_simp; done) | (go_simp; rfl)); intro gb137 hg w31 hbox hb; have n0_ := Aside0.mk (Kd.R_below (by (with_reducible repeat (first | apply Kd.R_alloc | apply Kd.R_drewN | apply Kd.R_drew)); exact HO124.out) hb); have n1_ := Aside0.mk (Kd.R_below (by (with_reducible repeat (first | apply Kd.R_alloc | apply Kd.R_drewN | apply Kd.R_drew)); exact HO130.out) hb); have n2_ := Aside0.mk (Kd.R_below (by (with_reducible repeat (first | apply Kd.R_alloc | apply Kd.R_drewN | apply Kd.R_drew)); exact HO134.out) hb); have n3_ := Aside0.mk (blk_below (g := gb136) (o := .cells #[.slice none 0 0, .int .i64 0] 46 (0, 0)) (by (with_reducible repeat (first | refine blk_drewN ?_ _ | refine blk_drew ?_ | refine blk_alloc ?_ _)); exact BK136.out) hb); have n4_ := Aside0.mk (below_step (by repeat (first | (with_reducible first | exact HB.out | apply below_alloc | apply pw_below_drewN | apply below_drew1 | refine below_set ?_ GE136.out) | exact HB.out)) hb); have n5_ := Aside0.mk (hbox); have n6_ := Aside0.mk ((by rw [hg]; exact (below_size (by repeat (first | (with_reducible first | exact HB.out | apply below_alloc | apply pw_below_drewN | apply below_drew1 | refine below_set ?_ GE136.out) | exact HB.out))) : w.heap.size ≤ gb137)); have n7_ := Aside0.mk ((by rw [hg]; exact (below_size (by repeat (first | (with_reducible first | exact HB.out | apply below_alloc | apply pw_below_drewN | apply below_drew1 | refine below_set ?_ GE136.out) | exact HB.out))) : w.heap.size ≤ gb137)); have n8_ := Aside0.mk ((by rw [hg]; exact Nat.ne_of_lt (blk_lt (g := gb136) (o := .cells #[.slice none 0 0, .int .i64 0] 46 (0, 0)) (by (with_reducible repeat (first | refine blk_drewN ?_ _ | refine blk_drew ?_ | refine blk_alloc ?_ _)); exact BK136.out)) : gb136 ≠ gb137)); have n9_ := Aside0.mk ((by rw [hg]; exact Nat.ne_of_gt (blk_lt (g := gb136) (o := .cells #[.slice none 0 0, .int .i64 0] 46 (0, 0)) (by (with_reducible repeat (first | refine blk_drewN ?_ _ | refine blk_drew ?_ | refine blk_alloc ?_ _)); exact BK136.out)) : gb137 ≠ gb136)); clear HO124; clear HO130; clear HO134; clear BK136; clear HB; have HO124 := n0_; have HO130 := n1_; have HO134 := n2_; have BK136 := n3_; have HB := n4_; have BK137 := n5_; have GW137 := n6_; have GE137 := n7_; have NB136_137 := n8_; have NB137_136 := n9_; clear n0_ n1_ n2_ n3_ n4_ n5_ n6_ n7_ n8_ n9_; clear hb hbox hg; obtain ⟨Ao32, co32, eo32⟩ := Kd.R_slice HO130.out; subst eo32; have hnb33 := NB136_137.out; have hnc33 := NB137_136.out; have hcz34_0 : w31.cell? ⟨gb136, 0, none⟩ = some (.slice none 0 0) := (blk_cell BK136.out 0).trans rfl; have hcz34_1 : w31.cell? ⟨gb136, 1, none⟩ = some (.int .i64 0) := (blk_cell BK136.out 1).trans rfl; have hfz34_0 := blk_frozen BK136.out 0; have hfz34_1 := blk_frozen BK136.out 1; obtain ⟨Ao35, co35, eo35⟩ := Kd.R_slice HO134.out; subst eo35; have hcz36_0 : w31.cell? ⟨gb137, 0, none⟩ = some (.slice none 0 0) := (blk_cell BK137.out 0).trans rfl; have hcz36_1 : w31.cell? ⟨gb137, 1, none⟩ = some (.int .i64 0) := (blk_cell BK137.out 1).trans rfl; have hfz36_0 := blk_frozen BK137.out 0; have hfz36_1 := blk_frozen BK137.out 1) | ((with_reducible refine gate_callee (f := 21) rfl ?_); refine goesL_ (some 19) rfl rfl Try.func21 (by kernel_rfl) rfl #[.int .u64 t125, .int .u64 t126] rfl (by (try simp only [List.map_toArray, List.map_cons, List.map_nil]); first | done | rfl | (simp only [List.length_drop, List.length_take]; rfl)) ?_; (with_reducible refine (digest_Join.calls t125 t126 t138 _ A6.out).mono ?_); rintro e w' ⟨rfl, ⟨nd, rfl⟩⟩; refine ⟨_, rfl, ?_⟩) | ((with_reducible refine gate_callee (f := 21) rfl ?_); refine goesL_ (some 21) rfl rfl Try.func21 (by kernel_rfl) rfl #[.int .u64 t138, .int .u64 t127] rfl (by (try simp only [List.map_toArray, List.map_cons, List.map_nil]); first | done | rfl | (simp only [List.length_drop, List.length_take]; rfl)) ?_; (with_reducible refine (digest_Join.calls t138 t127 t139 _ A7.out).mono ?_); rintro e w' ⟨rfl, ⟨nd, rfl⟩⟩; refine ⟨_, rfl, ?_⟩) | ((with_reducible refine gate_callee (f := 21) rfl ?_); refine goesL_ (some 22) rfl rfl Try.func21 (by kernel_rfl) rfl #[.int .u64 3, .int .u64 t139] rfl (by (try simp only [List.map_toArray, List.map_cons, List.map_nil]); first | done | rfl | (simp only [List.length_drop, List.length_take]; rfl)) ?_; (with_reducible refine (digest_Join.calls 3 t139 t140 _ A8.out).mono ?_); rintro e w' ⟨rfl, ⟨nd, rfl⟩⟩; refine ⟨_, rfl, ?_⟩) | ((with_reducible refine gate_callee (f := 34) rfl ?_); refine goesL_ (some 23) rfl rfl Try.func34 (by kernel_rfl) rfl #[.slice none 0 0, .int .i64 0] rfl (by (try simp only [List.map_toArray, List.map_cons, List.map_nil]); first | done | rfl | (simp only [List.length_drop, List.length_take]; rfl)) ?_; (refine (parolelaw04_open.calls _ _ ([] : List Int) 0 t141 t144 _ ?side1 ?side2 A9.out).mono ?_); (case side1 => exact Kd.C_nil _ _); (case side2 => exact Nat.le_refl _); rintro e w37 ⟨v142, rfl, ho0, hb⟩; refine ⟨_, rfl, ?_⟩; have n0_ := Aside0.mk (Kd.R_elder' (by (with_reducible repeat (first | apply Kd.R_alloc | apply Kd.R_drewN | apply Kd.R_drew)); exact (Kd.R_mono (Kd.R_mono (Kd.R_far (p := ⟨gb137, 1, none⟩) (Kd.R_far (p := ⟨gb137, 0, none⟩) (Kd.R_far (p := ⟨gb136, 1, none⟩) (Kd.R_far (p := ⟨gb136, 0, none⟩) (Kd.R_types (Kd.R_types HO124.out BK136.out (by decide)) BK137.out (by decide)) (fun _ hk => by first | exact hk.1.2 | exact hk | exact ⟨hk.2, hk.1⟩ | simp_all) (.slice Ao32 t128.length co32)) (fun _ hk => by first | exact hk.1.2 | exact hk | exact ⟨hk.2, hk.1⟩ | simp_all) (.int .i64 t131)) (fun _ hk => by first | exact hk.2 | exact hk | exact ⟨hk.2, hk.1⟩ | simp_all) (.slice Ao35 t132.length co35)) (fun _ hk => by first | exact hk.2 | exact hk | exact ⟨hk.2, hk.1⟩ | simp_all) (.int .i64 t135)) (fun _ h_ => h_.1)) (fun _ h_ => h_.1))) (Kd.R_base ho0) hb); have n1_ := Aside0.mk (Kd.R_elder' (by (with_reducible repeat (first | apply Kd.R_alloc | apply Kd.R_drewN | apply Kd.R_drew)); exact (Kd.R_mono (Kd.R_mono (Kd.R_far (p := ⟨gb137, 1, none⟩) (Kd.R_far (p := ⟨gb137, 0, none⟩) (Kd.R_far (p := ⟨gb136, 1, none⟩) (Kd.R_far (p := ⟨gb136, 0, none⟩) (Kd.R_types (Kd.R_types HO130.out BK136.out (by decide)) BK137.out (by decide)) (fun _ hk => by first | exact hk.1.2 | exact hk | exact ⟨hk.2, hk.1⟩ | simp_all) (.slice Ao32 t128.length co32)) (fun _ hk => by first | exact hk.1.2 | exact hk | exact ⟨hk.2, hk.1⟩ | simp_all) (.int .i64 t131)) (fun _ hk => by first | exact hk.2 | exact hk | exact ⟨hk.2, hk.1⟩ | simp_all) (.slice Ao35 t132.length co35)) (fun _ hk => by first | exact hk.2 | exact hk | exact ⟨hk.2, hk.1⟩ | simp_all) (.int .i64 t135)) (fun _ h_ => h_.1)) (fun _ h_ => h_.1))) (Kd.R_base ho0) hb); have n2_ := Aside0.mk (Kd.R_elder' (by (with_reducible repeat (first | apply Kd.R_alloc | apply Kd.R_drewN | apply Kd.R_drew)); exact (Kd.R_mono (Kd.R_mono (Kd.R_far (p := ⟨gb137, 1, none⟩) (Kd.R_far (p := ⟨gb137, 0, none⟩) (Kd.R_far (p := ⟨gb136, 1, none⟩) (Kd.R_far (p := ⟨gb136, 0, none⟩) (Kd.R_types (Kd.R_types HO134.out BK136.out (by decide)) BK137.out (by decide)) (fun _ hk => by first | exact hk.1.2 | exact hk | exact ⟨hk.2, hk.1⟩ | simp_all) (.slice Ao32 t128.length co32)) (fun _ hk => by first | exact hk.1.2 | exact hk | exact ⟨hk.2, hk.1⟩ | simp_all) (.int .i64 t131)) (fun _ hk => by first | exact hk.2 | exact hk | exact ⟨hk.2, hk.1⟩ | simp_all) (.slice Ao35 t132.length co35)) (fun _ hk => by first | exact hk.2 | exact hk | exact ⟨hk.2, hk.1⟩ | simp_all) (.int .i64 t135)) (fun _ h_ => h_.1)) (fun _ h_ => h_.1))) (Kd.R_base ho0) hb); have n3_ := Aside0.mk (Kd.R_lower (Kd.R_new' (Kd.R_new' (Kd.R_new' ho0 (Kd.R_lt (by (with_reducible repeat (first | apply Kd.R_alloc | apply Kd.R_drewN | apply Kd.R_drew)); exact (Kd.R_mono (Kd.R_mono (Kd.R_far (p := ⟨gb137, 1, none⟩) (Kd.R_far (p := ⟨gb137, 0, none⟩) (Kd.R_far (p := ⟨gb136, 1, none⟩) (Kd.R_far (p := ⟨gb136, 0, none⟩) (Kd.R_types (Kd.R_types HO124.out BK136.out (by decide)) BK137.out (by decide)) (fun _ hk => by first | exact hk.1.2 | exact hk | exact ⟨hk.2, hk.1⟩ | simp_all) (.slice Ao32 t128.length co32)) (fun _ hk => by first | exact hk.1.2 | exact hk | exact ⟨hk.2, hk.1⟩ | simp_all) (.int .i64 t131)) (fun _ hk => by first | exact hk.2 | exact hk | exact ⟨hk.2, hk.1⟩ | simp_all) (.slice Ao35 t132.length co35)) (fun _ hk => by first | exact hk.2 | exact hk | exact ⟨hk.2, hk.1⟩ | simp_all) (.int .i64 t135)) (fun _ h_ => h_.1)) (fun _ h_ => h_.1))))) (Kd.R_lt (by (with_reducible repeat (first | apply Kd.R_alloc | apply Kd.R_drewN | apply Kd.R_drew)); exact (Kd.R_mono (Kd.R_mono (Kd.R_far (p := ⟨gb137, 1, none⟩) (Kd.R_far (p := ⟨gb137, 0, none⟩) (Kd.R_far (p := ⟨gb136, 1, none⟩) (Kd.R_far (p := ⟨gb136, 0, none⟩) (Kd.R_types (Kd.R_types HO130.out BK136.out (by decide)) BK137.out (by decide)) (fun _ hk => by first | exact hk.1.2 | exact hk | exact ⟨hk.2, hk.1⟩ | simp_all) (.slice Ao32 t128.length co32)) (fun _ hk => by first | exact hk.1.2 | exact hk | exact ⟨hk.2, hk.1⟩ | simp_all) (.int .i64 t131)) (fun _ hk => by first | exact hk.2 | exact hk | exact ⟨hk.2, hk.1⟩ | simp_all) (.slice Ao35 t132.length co35)) (fun _ hk => by first | exact hk.2 | exact hk | exact ⟨hk.2, hk.1⟩ | simp_all) (.int .i64 t135)) (fun _ h_ => h_.1)) (fun _ h_ => h_.1))))) (Kd.R_lt (by (with_reducible repeat (first | apply Kd.R_alloc | apply Kd.R_drewN | apply Kd.R_drew)); exact (Kd.R_mono (Kd.R_mono (Kd.R_far (p := ⟨gb137, 1, none⟩) (Kd.R_far (p := ⟨gb137, 0, none⟩) (Kd.R_far (p := ⟨gb136, 1, none⟩) (Kd.R_far (p := ⟨gb136, 0, none⟩) (Kd.R_types (Kd.R_types HO134.out BK136.out (by decide)) BK137.out (by decide)) (fun _ hk => by first | exact hk.1.2 | exact hk | exact ⟨hk.2, hk.1⟩ | simp_all) (.slice Ao32 t128.length co32)) (fun _ hk => by first | exact hk.1.2 | exact hk | exact ⟨hk.2, hk.1⟩ | simp_all) (.int .i64 t131)) (fun _ hk => by first | exact hk.2 | exact hk | exact ⟨hk.2, hk.1⟩ | simp_all) (.slice Ao35 t132.length co35)) (fun _ hk => by first | exact hk.2 | exact hk | exact ⟨hk.2, hk.1⟩ | simp_all) (.int .i64 t135)) (fun _ h_ => h_.1)) (fun _ h_ => h_.1))))) (below_size (by repeat (first | (with_reducible first | exact HB.out | apply below_alloc | apply pw_below_drewN | apply below_drew1 | refine below_set ?_ GE136.out | refine below_set ?_ GE137.out) | exact HB.out)))); have n4_ := Aside0.mk (blk_below (g := gb136) (o := .cells #[.slice Ao32 t128.length co32, .int .i64 t131] 46 (0, 0)) (by (with_reducible repeat (first | refine blk_drewN ?_ _ | refine blk_drew ?_ | refine blk_alloc ?_ _)); refine blk_far ?_ NB136_137.out _; (with_reducible repeat (first | refine blk_drewN ?_ _ | refine blk_drew ?_ | refine blk_alloc ?_ _)); refine blk_far ?_ NB136_137.out _; (with_reducible repeat (first | refine blk_drewN ?_ _ | refine blk_drew ?_ | refine blk_alloc ?_ _)); refine blk_put (cs := #[.slice Ao32 t128.length co32, .int .i64 0]) ?_ 1 _ rfl; (with_reducible repeat (first | refine blk_drewN ?_ _ | refine blk_drew ?_ | refine blk_alloc ?_ _)); refine blk_put (cs := #[.slice none 0 0, .int .i64 0]) ?_ 0 _ rfl; (with_reducible repeat (first | refine blk_drewN ?_ _ | refine blk_drew ?_ | refine blk_alloc ?_ _)); exact BK136.out) hb); have n5_ := Aside0.mk (blk_below (g := gb137) (o := .cells #[.slice Ao35 t132.length co35, .int .i64 t135] 46 (0, 0)) (by (with_reducible repeat (first | refine blk_drewN ?_ _ | refine blk_drew ?_ | refine blk_alloc ?_ _)); refine blk_put (cs := #[.slice Ao35 t132.length co35, .int .i64 0]) ?_ 1 _ rfl; (with_reducible repeat (first | refine blk_drewN ?_ _ | refine blk_drew ?_ | refine blk_alloc ?_ _)); refine blk_put (cs := #[.slice none 0 0, .int .i64 0]) ?_ 0 _ rfl; (with_reducible repeat (first | refine blk_drewN ?_ _ | refine blk_drew ?_ | refine blk_alloc ?_ _)); refine blk_far ?_ NB137_136.out _; (with_reducible repeat (first | refine blk_drewN ?_ _ | refine blk_drew ?_ | refine blk_alloc ?_ _)); refine blk_far ?_ NB137_136.out _; (with_reducible repeat (first | refine blk_drewN ?_ _ | refine blk_drew ?_ | refine blk_alloc ?_ _)); exact BK137.out) hb); have n6_ := Aside0.mk (below_step (by repeat (first | (with_reducible first | exact HB.out | apply below_alloc | apply pw_below_drewN | apply below_drew1 | refine below_set ?_ GE136.out | refine below_set ?_ GE137.out) | exact HB.out)) hb); clear HO124; clear HO130; clear HO134; clear BK136; clear BK137; clear HB; have HO124 := n0_; have HO130 := n1_; have HO134 := n2_; have HO143 := n3_; have BK136 := n4_; have BK137 := n5_; have HB := n6_; clear n0_ n1_ n2_ n3_ n4_ n5_ n6_; (try clear hb); (try clear hb2); (try clear hk); (try clear hi); (try clear ho0)) | ((with_reducible refine gate_dst (N := 8) rfl ?_); (try (refine gate_guard (by rfl) ?_; dsimp only)); refine box_event ?hg (N := 8) ?hd (cs := #[.slice none 0 0, .int .i64 0]) (t := 46) ?hr ?_; (case hd => rfl); (case hg => rfl); (case hr => first | (go_simp; done) | (go_simp; rfl)); intro gb145 hg w38 hbox hb; have n0_ := Aside0.mk (Kd.R_below (by (with_reducible repeat (first | apply Kd.R_alloc | apply Kd.R_drewN | apply Kd.R_drew)); exact HO124.out) hb); have n1_ := Aside0.mk (Kd.R_below (by (with_reducible repeat (first | apply Kd.R_alloc | apply Kd.R_drewN | apply Kd.R_drew)); exact HO130.out) hb); have n2_ := Aside0.mk (Kd.R_below (by (with_reducible repeat (first | apply Kd.R_alloc | apply Kd.R_drewN | apply Kd.R_drew)); exact HO134.out) hb); have n3_ := Aside0.mk (Kd.R_below (by (with_reducible repeat (first | apply Kd.R_alloc | apply Kd.R_drewN | apply Kd.R_drew)); exact HO143.out) hb); have n4_ := Aside0.mk (blk_below (g := gb136) (o := .cells #[.slice Ao32 t128.length co32, .int .i64 t131] 46 (0, 0)) (by (with_reducible repeat (first | refine blk_drewN ?_ _ | refine blk_drew ?_ | refine blk_alloc ?_ _)); exact BK136.out) hb); have n5_ := Aside0.mk (blk_below (g := gb137) (o := .cells #[.slice Ao35 t132.length co35, .int .i64 t135] 46 (0, 0)) (by (with_reducible repeat (first | refine blk_drewN ?_ _ | refine blk_drew ?_ | refine blk_alloc ?_ _)); exact BK137.out) hb); have n6_ := Aside0.mk (below_step (by repeat (first | (with_reducible first | exact HB.out | apply below_alloc | apply pw_below_drewN | apply below_drew1 | refine below_set ?_ GE136.out | refine below_set ?_ GE137.out) | exact HB.out)) hb); have n7_ := Aside0.mk (hbox); have n8_ := Aside0.mk ((by rw [hg]; exact (below_size (by repeat (first | (with_reducible first | exact HB.out | apply below_alloc | apply pw_below_drewN | apply below_drew1 | refine below_set ?_ GE136.out | refine below_set ?_ GE137.out) | exact HB.out))) : w.heap.size ≤ gb145)); have n9_ := Aside0.mk ((by rw [hg]; exact (below_size (by repeat (first | (with_reducible first | exact HB.out | apply below_alloc | apply pw_below_drewN | apply below_drew1 | refine below_set ?_ GE136.out | refine below_set ?_ GE137.out) | exact HB.out))) : w.heap.size ≤ gb145)); have n10_ := Aside0.mk ((by rw [hg]; exact Nat.ne_of_lt (blk_lt (g := gb136) (o := .cells #[.slice Ao32 t128.length co32, .int .i64 t131] 46 (0, 0)) (by (with_reducible repeat (first | refine blk_drewN ?_ _ | refine blk_drew ?_ | refine blk_alloc ?_ _)); exact BK136.out)) : gb136 ≠ gb145)); have n11_ := Aside0.mk ((by rw [hg]; exact Nat.ne_of_gt (blk_lt (g := gb136) (o := .cells #[.slice Ao32 t128.length co32, .int .i64 t131] 46 (0, 0)) (by (with_reducible repeat (first | refine blk_drewN ?_ _ | refine blk_drew ?_ | refine blk_alloc ?_ _)); exact BK136.out)) : gb145 ≠ gb136)); have n12_ := Aside0.mk ((by rw [hg]; exact Nat.ne_of_lt (blk_lt (g := gb137) (o := .cells #[.slice Ao35 t132.length co35, .int .i64 t135] 46 (0, 0)) (by (with_reducible repeat (first | refine blk_drewN ?_ _ | refine blk_drew ?_ | refine blk_alloc ?_ _)); exact BK137.out)) : gb137 ≠ gb145)); have n13_ := Aside0.mk ((by rw [hg]; exact Nat.ne_of_gt (blk_lt (g := gb137) (o := .cells #[.slice Ao35 t132.length co35, .int .i64 t135] 46 (0, 0)) (by (with_reducible repeat (first | refine blk_drewN ?_ _ | refine blk_drew ?_ | refine blk_alloc ?_ _)); exact BK137.out)) : gb145 ≠ gb137)); clear HO124; clear HO130; clear HO134; clear HO143; clear BK136; clear BK137; clear HB; have HO124 := n0_; have HO130 := n1_; have HO134 := n2_; have HO143 := n3_; have BK136 := n4_; have BK137 := n5_; have HB := n6_; have BK145 := n7_; have GW145 := n8_; have GE145 := n9_; have NB136_145 := n10_; have NB145_136 := n11_; have NB137_145 := n12_; have NB145_137 := n13_; clear n0_ n1_ n2_ n3_ n4_ n5_ n6_ n7_ n8_ n9_ n10_ n11_ n12_ n13_; clear hb hbox hg; obtain ⟨Ao39, co39, eo39⟩ := Kd.R_slice HO143.out; subst eo39; have hnb40 := NB145_136.out; have hnc40 := NB136_145.out; have hnb41 := NB145_137.out; have hnc41 := NB137_145.out; have hcz42_0 : w38.cell? ⟨gb145, 0, none⟩ = some (.slice none 0 0) := (blk_cell BK145.out 0).trans rfl; have hcz42_1 : w38.cell? ⟨gb145, 1, none⟩ = some (.int .i64 0) := (blk_cell BK145.out 1).trans rfl; have hfz42_0 := blk_frozen BK145.out 0; have hfz42_1 := blk_frozen BK145.out 1))
                have n0_ : Aside0 (Kd.R (Kd.int .u64) 22 ((w38.setCell ⟨gb145, 0, none⟩ (.slice Ao39 t141.length co39)).setCell ⟨gb145, 1, none⟩ (.int .i64 t144)) w.heap.size (fun k_ => some k_ ≠ (.slice Ao32 t128.length co32 : Value).ownBlock ∧ some k_ ≠ (.slice Ao35 t132.length co35 : Value).ownBlock ∧ some k_ ≠ (.slice Ao39 t141.length co39 : Value).ownBlock) (.slice Ao27 y122.length co27) y122) := ⟨by (with_reducible repeat (first | apply Kd.R_alloc | apply Kd.R_drewN | apply Kd.R_drew)); exact Kd.R_mono (Kd.R_far (p := ⟨gb145, 1, none⟩) (Kd.R_far (p := ⟨gb145, 0, none⟩) (Kd.R_types HO124.out BK145.out (by decide)) (fun _ hk => by first | exact hk.2 | exact hk | exact ⟨hk.2, hk.1⟩ | simp_all) (.slice Ao39 t141.length co39)) (fun _ hk => by first | exact hk.2 | exact hk | exact ⟨hk.2, hk.1⟩ | simp_all) (.int .i64 t144)) (fun _ hk => ⟨hk.1.1.1.2, ⟨hk.1.1.2, hk.1.2⟩⟩)⟩
                have n1_ : Aside0 (Kd.R (Kd.int .u64) 22 ((w38.setCell ⟨gb145, 0, none⟩ (.slice Ao39 t141.length co39)).setCell ⟨gb145, 1, none⟩ (.int .i64 t144)) w.heap.size (fun k_ => some k_ ≠ (.slice Ao27 y122.length co27 : Value).ownBlock ∧ some k_ ≠ (.slice Ao35 t132.length co35 : Value).ownBlock ∧ some k_ ≠ (.slice Ao39 t141.length co39 : Value).ownBlock) (.slice Ao32 t128.length co32) t128) := ⟨by (with_reducible repeat (first | apply Kd.R_alloc | apply Kd.R_drewN | apply Kd.R_drew)); exact Kd.R_mono (Kd.R_far (p := ⟨gb145, 1, none⟩) (Kd.R_far (p := ⟨gb145, 0, none⟩) (Kd.R_types HO130.out BK145.out (by decide)) (fun _ hk => by first | exact hk.2 | exact hk | exact ⟨hk.2, hk.1⟩ | simp_all) (.slice Ao39 t141.length co39)) (fun _ hk => by first | exact hk.2 | exact hk | exact ⟨hk.2, hk.1⟩ | simp_all) (.int .i64 t144)) (fun _ hk => ⟨hk.1.1.1.2, ⟨hk.1.1.2, hk.1.2⟩⟩)⟩
                have n2_ : Aside0 (Kd.R (Kd.int .u64) 22 ((w38.setCell ⟨gb145, 0, none⟩ (.slice Ao39 t141.length co39)).setCell ⟨gb145, 1, none⟩ (.int .i64 t144)) w.heap.size (fun k_ => some k_ ≠ (.slice Ao27 y122.length co27 : Value).ownBlock ∧ some k_ ≠ (.slice Ao32 t128.length co32 : Value).ownBlock ∧ some k_ ≠ (.slice Ao39 t141.length co39 : Value).ownBlock) (.slice Ao35 t132.length co35) t132) := ⟨by (with_reducible repeat (first | apply Kd.R_alloc | apply Kd.R_drewN | apply Kd.R_drew)); exact Kd.R_mono (Kd.R_far (p := ⟨gb145, 1, none⟩) (Kd.R_far (p := ⟨gb145, 0, none⟩) (Kd.R_types HO134.out BK145.out (by decide)) (fun _ hk => by first | exact hk.2 | exact hk | exact ⟨hk.2, hk.1⟩ | simp_all) (.slice Ao39 t141.length co39)) (fun _ hk => by first | exact hk.2 | exact hk | exact ⟨hk.2, hk.1⟩ | simp_all) (.int .i64 t144)) (fun _ hk => ⟨hk.1.1.1.2, ⟨hk.1.1.2, hk.1.2⟩⟩)⟩
                have n3_ : Aside0 (Kd.R (Kd.int .u64) 22 ((w38.setCell ⟨gb145, 0, none⟩ (.slice Ao39 t141.length co39)).setCell ⟨gb145, 1, none⟩ (.int .i64 t144)) w.heap.size (fun k_ => some k_ ≠ (.slice Ao27 y122.length co27 : Value).ownBlock ∧ some k_ ≠ (.slice Ao32 t128.length co32 : Value).ownBlock ∧ some k_ ≠ (.slice Ao35 t132.length co35 : Value).ownBlock) (.slice Ao39 t141.length co39) t141) := ⟨by (with_reducible repeat (first | apply Kd.R_alloc | apply Kd.R_drewN | apply Kd.R_drew)); exact Kd.R_mono (Kd.R_far (p := ⟨gb145, 1, none⟩) (Kd.R_far (p := ⟨gb145, 0, none⟩) (Kd.R_types HO143.out BK145.out (by decide)) (fun _ hk => by first | exact hk.2 | exact hk | exact ⟨hk.2, hk.1⟩ | simp_all) (.slice Ao39 t141.length co39)) (fun _ hk => by first | exact hk.2 | exact hk | exact ⟨hk.2, hk.1⟩ | simp_all) (.int .i64 t144)) (fun _ hk => ⟨hk.1.1.1.2, ⟨hk.1.1.2, hk.1.2⟩⟩)⟩
                have n4_ : Aside0 (((w38.setCell ⟨gb145, 0, none⟩ (.slice Ao39 t141.length co39)).setCell ⟨gb145, 1, none⟩ (.int .i64 t144)).heap[gb136]? = some (.cells #[.slice Ao32 t128.length co32, .int .i64 t131] 46 (0, 0))) := ⟨by (with_reducible repeat (first | refine blk_drewN ?_ _ | refine blk_drew ?_ | refine blk_alloc ?_ _)); refine blk_far ?_ NB136_145.out _; (with_reducible repeat (first | refine blk_drewN ?_ _ | refine blk_drew ?_ | refine blk_alloc ?_ _)); refine blk_far ?_ NB136_145.out _; (with_reducible repeat (first | refine blk_drewN ?_ _ | refine blk_drew ?_ | refine blk_alloc ?_ _)); exact BK136.out⟩
                have n5_ : Aside0 (((w38.setCell ⟨gb145, 0, none⟩ (.slice Ao39 t141.length co39)).setCell ⟨gb145, 1, none⟩ (.int .i64 t144)).heap[gb137]? = some (.cells #[.slice Ao35 t132.length co35, .int .i64 t135] 46 (0, 0))) := ⟨by (with_reducible repeat (first | refine blk_drewN ?_ _ | refine blk_drew ?_ | refine blk_alloc ?_ _)); refine blk_far ?_ NB137_145.out _; (with_reducible repeat (first | refine blk_drewN ?_ _ | refine blk_drew ?_ | refine blk_alloc ?_ _)); refine blk_far ?_ NB137_145.out _; (with_reducible repeat (first | refine blk_drewN ?_ _ | refine blk_drew ?_ | refine blk_alloc ?_ _)); exact BK137.out⟩
                have n6_ : Aside0 (((w38.setCell ⟨gb145, 0, none⟩ (.slice Ao39 t141.length co39)).setCell ⟨gb145, 1, none⟩ (.int .i64 t144)).heap[gb145]? = some (.cells #[.slice Ao39 t141.length co39, .int .i64 t144] 46 (0, 0))) := ⟨by (with_reducible repeat (first | refine blk_drewN ?_ _ | refine blk_drew ?_ | refine blk_alloc ?_ _)); refine blk_put (cs := #[.slice Ao39 t141.length co39, .int .i64 0]) ?_ 1 _ rfl; (with_reducible repeat (first | refine blk_drewN ?_ _ | refine blk_drew ?_ | refine blk_alloc ?_ _)); refine blk_put (cs := #[.slice none 0 0, .int .i64 0]) ?_ 0 _ rfl; (with_reducible repeat (first | refine blk_drewN ?_ _ | refine blk_drew ?_ | refine blk_alloc ?_ _)); exact BK145.out⟩
                have n7_ : Aside0 (Below w.heap.size w ((w38.setCell ⟨gb145, 0, none⟩ (.slice Ao39 t141.length co39)).setCell ⟨gb145, 1, none⟩ (.int .i64 t144))) := ⟨by repeat (first | (with_reducible first | exact HB.out | apply below_alloc | apply pw_below_drewN | apply below_drew1 | refine below_set ?_ GE136.out | refine below_set ?_ GE137.out | refine below_set ?_ GE145.out) | exact HB.out)⟩
                (try clear HO124)
                (try clear HO130)
                (try clear HO134)
                (try clear HO143)
                (try clear BK136)
                (try clear BK137)
                (try clear BK145)
                (try clear HB)
                generalize ((w38.setCell ⟨gb145, 0, none⟩ (.slice Ao39 t141.length co39)).setCell ⟨gb145, 1, none⟩ (.int .i64 t144)) = w43 at n0_ n1_ n2_ n3_ n4_ n5_ n6_ n7_ ⊢
                have HO124 := n0_
                have HO130 := n1_
                have HO134 := n2_
                have HO143 := n3_
                have BK136 := n4_
                have BK137 := n5_
                have BK145 := n6_
                have HB := n7_
                clear n0_ n1_ n2_ n3_ n4_ n5_ n6_ n7_
                have n0_ := Aside0.mk (Kd.R_drew HO124.out)
                have n1_ := Aside0.mk (Kd.R_drew HO130.out)
                have n2_ := Aside0.mk (Kd.R_drew HO134.out)
                have n3_ := Aside0.mk (Kd.R_drew HO143.out)
                have n4_ := Aside0.mk (blk_drew BK136.out)
                have n5_ := Aside0.mk (blk_drew BK137.out)
                have n6_ := Aside0.mk (blk_drew BK145.out)
                have n7_ := Aside0.mk (below_drew1 HB.out)
                clear HO124
                clear HO130
                clear HO134
                clear HO143
                clear BK136
                clear BK137
                clear BK145
                clear HB
                have HO124 := n0_
                have HO130 := n1_
                have HO134 := n2_
                have HO143 := n3_
                have BK136 := n4_
                have BK137 := n5_
                have BK145 := n6_
                have HB := n7_
                clear n0_ n1_ n2_ n3_ n4_ n5_ n6_ n7_
                refine start_ (n := 53) (S := fun w' => w'.cell? ⟨gb136, 0, none⟩ = some (.slice Ao32 t128.length co32) ∧ w'.cell? ⟨gb136, 1, none⟩ = some (.int .i64 t131) ∧ w'.cell? ⟨gb137, 0, none⟩ = some (.slice Ao35 t132.length co35) ∧ w'.cell? ⟨gb137, 1, none⟩ = some (.int .i64 t135) ∧ w'.cell? ⟨gb145, 0, none⟩ = some (.slice Ao39 t141.length co39) ∧ w'.cell? ⟨gb145, 1, none⟩ = some (.int .i64 t144)) (ds := []) #[false, false, false, false, false, false, false, false, false, false, false, false, false, false, false, false, false, false, false, false, false, false, false, false, false, false, false, false, false, false, false, false, false, false, false, false, false, false, false, false, false, false, false, false, false, false, false, false, false, false, false, false, false] (by kernel_rfl) rfl rfl ⟨(blk_cell BK136.out 0).trans rfl, (blk_cell BK136.out 1).trans rfl, (blk_cell BK137.out 0).trans rfl, (blk_cell BK137.out 1).trans rfl, (blk_cell BK145.out 0).trans rfl, (blk_cell BK145.out 1).trans rfl⟩ (fun hHeld => ?_); refine with_tabW parolelaw04_examples.tab6 parolelaw04_examples.bits6 (fun HT_ HW_ => ?_)
                generalize w43.drew = w44 at HO124 HO130 HO134 HO143 BK136 BK137 BK145 HB hHeld ⊢
                refine pure_ (i := 0) (N := some 24) (v := ?_) (a' := ?_) #[true, false, false, false, false, false, false, false, false, false, false, false, false, false, false, false, false, false, false, false, false, false, false, false, false, false, false, false, false, false, false, false, false, false, false, false, false, false, false, false, false, false, false, false, false, false, false, false, false, false, false, false, false] rfl rfl (any_of HT_.out (by kernel_rfl)) (fun _ _ _ h => h) (Or.inl ⟨by rfl, ?_⟩) ?_ ?_
                rotate_left
                · intro w'
                  go_simp
                  first | with_reducible rfl | (rw [if_neg (cat_le (by assumption) (by assumption))]) | (rw [if_neg (cat_le2 (by assumption) (by assumption))])
                rotate_left
                · simp only [Act.put, List.setIfInBounds_toArray, List.set_cons_zero, List.set_cons_succ, i64_w, i32_w]
                  rfl
                refine take_ (i := 1) (N := some 25) (v := ?_) (a' := ?_) #[true, true, false, false, false, false, false, false, false, false, false, false, false, false, false, false, false, false, false, false, false, false, false, false, false, false, false, false, false, false, false, false, false, false, false, false, false, false, false, false, false, false, false, false, false, false, false, false, false, false, false, false, false] rfl rfl (take_ofW HT_.out HW_.out (by kernel_rfl)) (fun _ _ _ h => h) (Or.inl ⟨by rfl, ?_⟩) hHeld ?_ ?_
                rotate_left
                · rintro w' ⟨s0, s1, s2, s3, s4, s5⟩
                  go_simp
                  first | with_reducible rfl | (rw [if_neg (cat_le (by assumption) (by assumption))]) | (rw [if_neg (cat_le2 (by assumption) (by assumption))])
                rotate_left
                · simp only [Act.put, List.setIfInBounds_toArray, List.set_cons_zero, List.set_cons_succ, i64_w, i32_w]
                  rfl
                refine pure_ (i := 2) (N := some 26) (v := ?_) (a' := ?_) #[true, true, true, false, false, false, false, false, false, false, false, false, false, false, false, false, false, false, false, false, false, false, false, false, false, false, false, false, false, false, false, false, false, false, false, false, false, false, false, false, false, false, false, false, false, false, false, false, false, false, false, false, false] rfl rfl (any_of HT_.out (by kernel_rfl)) (fun _ _ _ h => h) (Or.inl ⟨by rfl, ?_⟩) ?_ ?_
                rotate_left
                · intro w'
                  go_simp
                  first | with_reducible rfl | (rw [if_neg (cat_le (by assumption) (by assumption))]) | (rw [if_neg (cat_le2 (by assumption) (by assumption))])
                rotate_left
                · simp only [Act.put, List.setIfInBounds_toArray, List.set_cons_zero, List.set_cons_succ, i64_w, i32_w]
                  rfl
                refine pure_ (i := 3) (N := some 27) (v := ?_) (a' := ?_) #[true, true, true, true, false, false, false, false, false, false, false, false, false, false, false, false, false, false, false, false, false, false, false, false, false, false, false, false, false, false, false, false, false, false, false, false, false, false, false, false, false, false, false, false, false, false, false, false, false, false, false, false, false] rfl rfl (any_of HT_.out (by kernel_rfl)) (fun _ _ _ h => h) (Or.inl ⟨by rfl, ?_⟩) ?_ ?_
                rotate_left
                · intro w'
                  go_simp
                  first | with_reducible rfl | (rw [if_neg (cat_le (by assumption) (by assumption))]) | (rw [if_neg (cat_le2 (by assumption) (by assumption))])
                rotate_left
                · simp only [Act.put, List.setIfInBounds_toArray, List.set_cons_zero, List.set_cons_succ, i64_w, i32_w]
                  rfl
                refine pure_ (i := 4) (N := some 28) (v := ?_) (a' := ?_) #[true, true, true, true, true, false, false, false, false, false, false, false, false, false, false, false, false, false, false, false, false, false, false, false, false, false, false, false, false, false, false, false, false, false, false, false, false, false, false, false, false, false, false, false, false, false, false, false, false, false, false, false, false] rfl rfl (any_of HT_.out (by kernel_rfl)) (fun _ _ _ h => h) (Or.inl ⟨by rfl, ?_⟩) ?_ ?_
                rotate_left
                · intro w'
                  go_simp
                  first | with_reducible rfl | (rw [if_neg (cat_le (by assumption) (by assumption))]) | (rw [if_neg (cat_le2 (by assumption) (by assumption))])
                rotate_left
                · simp only [Act.put, List.setIfInBounds_toArray, List.set_cons_zero, List.set_cons_succ, i64_w, i32_w]
                  rfl
                refine pure_ (i := 6) (N := some 30) (v := ?_) (a' := ?_) #[true, true, true, true, true, false, true, false, false, false, false, false, false, false, false, false, false, false, false, false, false, false, false, false, false, false, false, false, false, false, false, false, false, false, false, false, false, false, false, false, false, false, false, false, false, false, false, false, false, false, false, false, false] rfl rfl (any_of HT_.out (by kernel_rfl)) (fun _ _ _ h => h) (Or.inl ⟨by rfl, ?_⟩) ?_ ?_
                rotate_left
                · intro w'
                  go_simp
                  first | with_reducible rfl | (rw [if_neg (cat_le (by assumption) (by assumption))]) | (rw [if_neg (cat_le2 (by assumption) (by assumption))])
                rotate_left
                · simp only [Act.put, List.setIfInBounds_toArray, List.set_cons_zero, List.set_cons_succ, i64_w, i32_w]
                  rfl
                refine pure_ (i := 7) (N := some 31) (v := ?_) (a' := ?_) #[true, true, true, true, true, false, true, true, false, false, false, false, false, false, false, false, false, false, false, false, false, false, false, false, false, false, false, false, false, false, false, false, false, false, false, false, false, false, false, false, false, false, false, false, false, false, false, false, false, false, false, false, false] rfl rfl (any_of HT_.out (by kernel_rfl)) (fun _ _ _ h => h) (Or.inl ⟨by rfl, ?_⟩) ?_ ?_
                rotate_left
                · intro w'
                  go_simp
                  first | with_reducible rfl | (rw [if_neg (cat_le (by assumption) (by assumption))]) | (rw [if_neg (cat_le2 (by assumption) (by assumption))])
                rotate_left
                · simp only [Act.put, List.setIfInBounds_toArray, List.set_cons_zero, List.set_cons_succ, i64_w, i32_w]
                  rfl
                refine take_ (i := 5) (N := some 29) (v := ?_) (a' := ?_) #[true, true, true, true, true, true, true, true, false, false, false, false, false, false, false, false, false, false, false, false, false, false, false, false, false, false, false, false, false, false, false, false, false, false, false, false, false, false, false, false, false, false, false, false, false, false, false, false, false, false, false, false, false] rfl rfl (take_ofW HT_.out HW_.out (by kernel_rfl)) (fun _ _ _ h => h) (Or.inl ⟨by rfl, ?_⟩) hHeld ?_ ?_
                rotate_left
                · rintro w' ⟨s0, s1, s2, s3, s4, s5⟩
                  go_simp
                  first | with_reducible rfl | (rw [if_neg (cat_le (by assumption) (by assumption))]) | (rw [if_neg (cat_le2 (by assumption) (by assumption))])
                rotate_left
                · simp only [Act.put, List.setIfInBounds_toArray, List.set_cons_zero, List.set_cons_succ, i64_w, i32_w]
                  rfl
                refine one_ (i := 8) (N := some 32) #[true, true, true, true, true, true, true, true, true, false, false, false, false, false, false, false, false, false, false, false, false, false, false, false, false, false, false, false, false, false, false, false, false, false, false, false, false, false, false, false, false, false, false, false, false, false, false, false, false, false, false, false, false] rfl rfl (one_of HT_.out (by kernel_rfl)) (by decide) (fun K hK => ?_)
                refine Kd.R_lit_step (Kd.int .u64) _ 22 ?hg (N := 32) ?hd (xs := ([t125, t127] : List Int)) (inner := [.int .u64 t125, .int .u64 t127]) (ok := fun _ => True) (okp := fun _ => True) ?hr ?hp (fun _ hk => hk) trivial (Below.refl _ _) (Nat.le_refl _) (by simp) ?_; (case hd => rfl); (case hg => rfl); (case hr => first | (go_simp; done) | (go_simp; rfl)); (case hp => exact (Reps.one (show Kd.M (Kd.int .u64) _ _ _ t125 [.int .u64 t125] from rfl) (Reps.one (show Kd.M (Kd.int .u64) _ _ _ t127 [.int .u64 t127] from rfl) (Reps.none _ _))))
                intro v147 w45 ho46 hb hg_ hnew_
                clear hg_ hnew_
                (first | rw [← Ny146.out] at ho46 | (simp only [Int.reduceToNat] at ho46; rw [← Ny146.out] at ho46))
                have n0_ := Aside0.mk (Kd.R_elder' (by (with_reducible repeat (first | apply Kd.R_alloc | apply Kd.R_drewN | apply Kd.R_drew)); exact HO124.out) (Kd.R_base ho46) hb)
                have n1_ := Aside0.mk (Kd.R_elder' (by (with_reducible repeat (first | apply Kd.R_alloc | apply Kd.R_drewN | apply Kd.R_drew)); exact HO130.out) (Kd.R_base ho46) hb)
                have n2_ := Aside0.mk (Kd.R_elder' (by (with_reducible repeat (first | apply Kd.R_alloc | apply Kd.R_drewN | apply Kd.R_drew)); exact HO134.out) (Kd.R_base ho46) hb)
                have n3_ := Aside0.mk (Kd.R_elder' (by (with_reducible repeat (first | apply Kd.R_alloc | apply Kd.R_drewN | apply Kd.R_drew)); exact HO143.out) (Kd.R_base ho46) hb)
                have n4_ := Aside0.mk (Kd.R_lower (Kd.R_new' (Kd.R_new' (Kd.R_new' (Kd.R_new' ho46 (Kd.R_lt (by (with_reducible repeat (first | apply Kd.R_alloc | apply Kd.R_drewN | apply Kd.R_drew)); exact HO124.out))) (Kd.R_lt (by (with_reducible repeat (first | apply Kd.R_alloc | apply Kd.R_drewN | apply Kd.R_drew)); exact HO130.out))) (Kd.R_lt (by (with_reducible repeat (first | apply Kd.R_alloc | apply Kd.R_drewN | apply Kd.R_drew)); exact HO134.out))) (Kd.R_lt (by (with_reducible repeat (first | apply Kd.R_alloc | apply Kd.R_drewN | apply Kd.R_drew)); exact HO143.out))) (below_size (by repeat (first | (with_reducible first | exact HB.out | apply below_alloc | apply pw_below_drewN | apply below_drew1 | refine below_set ?_ GE136.out | refine below_set ?_ GE137.out | refine below_set ?_ GE145.out) | exact HB.out))))
                have n5_ := Aside0.mk (blk_below (g := gb136) (o := .cells #[.slice Ao32 t128.length co32, .int .i64 t131] 46 (0, 0)) (by (with_reducible repeat (first | refine blk_drewN ?_ _ | refine blk_drew ?_ | refine blk_alloc ?_ _)); exact BK136.out) hb)
                have n6_ := Aside0.mk (blk_below (g := gb137) (o := .cells #[.slice Ao35 t132.length co35, .int .i64 t135] 46 (0, 0)) (by (with_reducible repeat (first | refine blk_drewN ?_ _ | refine blk_drew ?_ | refine blk_alloc ?_ _)); exact BK137.out) hb)
                have n7_ := Aside0.mk (blk_below (g := gb145) (o := .cells #[.slice Ao39 t141.length co39, .int .i64 t144] 46 (0, 0)) (by (with_reducible repeat (first | refine blk_drewN ?_ _ | refine blk_drew ?_ | refine blk_alloc ?_ _)); exact BK145.out) hb)
                have n8_ := Aside0.mk (below_step (by repeat (first | (with_reducible first | exact HB.out | apply below_alloc | apply pw_below_drewN | apply below_drew1 | refine below_set ?_ GE136.out | refine below_set ?_ GE137.out | refine below_set ?_ GE145.out) | exact HB.out)) hb)
                clear HO124
                clear HO130
                clear HO134
                clear HO143
                clear BK136
                clear BK137
                clear BK145
                clear HB
                have HO124 := n0_
                have HO130 := n1_
                have HO134 := n2_
                have HO143 := n3_
                have HO148 := n4_
                have BK136 := n5_
                have BK137 := n6_
                have BK145 := n7_
                have HB := n8_
                clear n0_ n1_ n2_ n3_ n4_ n5_ n6_ n7_ n8_
                clear hb ho46
                obtain ⟨Ao47, co47, eo47⟩ := Kd.R_slice HO148.out
                (first | subst eo47 | (injection eo47 with f1_ f2_ f3_; have f4_ := f1_.symm; have f5_ := f3_.symm; clear f1_ f2_ f3_; subst f4_; subst f5_))
                refine hK.out _ _ ⟨(blk_cell BK136.out 0).trans rfl, (blk_cell BK136.out 1).trans rfl, (blk_cell BK137.out 0).trans rfl, (blk_cell BK137.out 1).trans rfl, (blk_cell BK145.out 0).trans rfl, (blk_cell BK145.out 1).trans rfl⟩ (fun hHeld => ?_)
                clear hK K
                refine norm_ (a' := ?_) ?_ ?_
                rotate_left
                · show Act.put _ (some 32) _ = _
                  simp only [Act.put, List.setIfInBounds_toArray, List.set_cons_zero, List.set_cons_succ, i64_w, i32_w]
                  rfl
                refine one_ (i := 9) (N := some 33) #[true, true, true, true, true, true, true, true, true, true, false, false, false, false, false, false, false, false, false, false, false, false, false, false, false, false, false, false, false, false, false, false, false, false, false, false, false, false, false, false, false, false, false, false, false, false, false, false, false, false, false, false, false] rfl rfl (one_of HT_.out (by kernel_rfl)) (by decide) (fun K hK => ?_)
                refine goes_ Try.func36 (by kernel_rfl) rfl #[.slice Ao32 t128.length co32, .slice Ao47 y146.length co47] (by rfl) rfl rfl (by (try simp only [List.map_toArray, List.map_cons, List.map_nil]); first | done | rfl | (simp only [List.length_drop, List.length_take]; rfl)) ?_
                with_reducible refine (paroleref04_Same.calls k _ _ t128 _ _ y146 true _ ?side1 ?side2 ?side3 ?side4 A11.out).mono ?_
                (case side1 => repeat (first | exact (Kd.R_reads' HO130.out).2.2 | (with_reducible refine Kd.C_alloc ?_ _) | (with_reducible refine Kd.C_drewN ?_ _) | (with_reducible refine Kd.C_drew ?_)))
                (case side2 => exact (Kd.R_reads' HO130.out).2.1)
                (case side3 => repeat (first | exact (Kd.R_reads' HO148.out).2.2 | (with_reducible refine Kd.C_alloc ?_ _) | (with_reducible refine Kd.C_drewN ?_ _) | (with_reducible refine Kd.C_drew ?_)))
                (case side4 => exact (Kd.R_reads' HO148.out).2.1)
                rintro e w' ⟨rfl, ⟨nd, rfl⟩⟩
                refine ⟨_, rfl, ?_⟩
                refine hK.out _ _ ⟨(blk_cell BK136.out 0).trans rfl, (blk_cell BK136.out 1).trans rfl, (blk_cell BK137.out 0).trans rfl, (blk_cell BK137.out 1).trans rfl, (blk_cell BK145.out 0).trans rfl, (blk_cell BK145.out 1).trans rfl⟩ (fun hHeld => ?_)
                clear hK K
                refine norm_ (a' := ?_) ?_ ?_
                rotate_left
                · show Act.put _ (some 33) _ = _
                  simp only [Act.put, List.setIfInBounds_toArray, List.set_cons_zero, List.set_cons_succ, i64_w, i32_w]
                  rfl
                refine pure_ (i := 10) (N := some 34) (v := ?_) (a' := ?_) #[true, true, true, true, true, true, true, true, true, true, true, false, false, false, false, false, false, false, false, false, false, false, false, false, false, false, false, false, false, false, false, false, false, false, false, false, false, false, false, false, false, false, false, false, false, false, false, false, false, false, false, false, false] rfl rfl (any_of HT_.out (by kernel_rfl)) (fun _ _ _ h => h) (Or.inl ⟨by rfl, ?_⟩) ?_ ?_
                rotate_left
                · intro w'
                  go_simp
                  first | with_reducible rfl | (rw [if_neg (cat_le (by assumption) (by assumption))]) | (rw [if_neg (cat_le2 (by assumption) (by assumption))])
                rotate_left
                · simp only [Act.put, List.setIfInBounds_toArray, List.set_cons_zero, List.set_cons_succ, i64_w, i32_w]
                  rfl
                refine pure_ (i := 11) (N := some 35) (v := ?_) (a' := ?_) #[true, true, true, true, true, true, true, true, true, true, true, true, false, false, false, false, false, false, false, false, false, false, false, false, false, false, false, false, false, false, false, false, false, false, false, false, false, false, false, false, false, false, false, false, false, false, false, false, false, false, false, false, false] rfl rfl (any_of HT_.out (by kernel_rfl)) (fun _ _ _ h => h) (Or.inl ⟨by rfl, ?_⟩) ?_ ?_
                rotate_left
                · intro w'
                  go_simp
                  first | with_reducible rfl | (rw [if_neg (cat_le (by assumption) (by assumption))]) | (rw [if_neg (cat_le2 (by assumption) (by assumption))])
                rotate_left
                · simp only [Act.put, List.setIfInBounds_toArray, List.set_cons_zero, List.set_cons_succ, i64_w, i32_w]
                  rfl
                refine pure_ (i := 12) (N := some 36) (v := ?_) (a' := ?_) #[true, true, true, true, true, true, true, true, true, true, true, true, true, false, false, false, false, false, false, false, false, false, false, false, false, false, false, false, false, false, false, false, false, false, false, false, false, false, false, false, false, false, false, false, false, false, false, false, false, false, false, false, false] rfl rfl (any_of HT_.out (by kernel_rfl)) (fun _ _ _ h => h) (Or.inl ⟨by rfl, ?_⟩) ?_ ?_
                rotate_left
                · intro w'
                  go_simp
                  first | with_reducible rfl | (rw [if_neg (cat_le (by assumption) (by assumption))]) | (rw [if_neg (cat_le2 (by assumption) (by assumption))])
                rotate_left
                · simp only [Act.put, List.setIfInBounds_toArray, List.set_cons_zero, List.set_cons_succ, i64_w, i32_w]
                  rfl
                refine pure_ (i := 14) (N := some 38) (v := ?_) (a' := ?_) #[true, true, true, true, true, true, true, true, true, true, true, true, true, false, true, false, false, false, false, false, false, false, false, false, false, false, false, false, false, false, false, false, false, false, false, false, false, false, false, false, false, false, false, false, false, false, false, false, false, false, false, false, false] rfl rfl (any_of HT_.out (by kernel_rfl)) (fun _ _ _ h => h) (Or.inl ⟨by rfl, ?_⟩) ?_ ?_
                rotate_left
                · intro w'
                  go_simp
                  first | with_reducible rfl | (rw [if_neg (cat_le (by assumption) (by assumption))]) | (rw [if_neg (cat_le2 (by assumption) (by assumption))])
                rotate_left
                · simp only [Act.put, List.setIfInBounds_toArray, List.set_cons_zero, List.set_cons_succ, i64_w, i32_w]
                  rfl
                refine pure_ (i := 15) (N := some 39) (v := ?_) (a' := ?_) #[true, true, true, true, true, true, true, true, true, true, true, true, true, false, true, true, false, false, false, false, false, false, false, false, false, false, false, false, false, false, false, false, false, false, false, false, false, false, false, false, false, false, false, false, false, false, false, false, false, false, false, false, false] rfl rfl (any_of HT_.out (by kernel_rfl)) (fun _ _ _ h => h) (Or.inl ⟨by rfl, ?_⟩) ?_ ?_
                rotate_left
                · intro w'
                  go_simp
                  first | with_reducible rfl | (rw [if_neg (cat_le (by assumption) (by assumption))]) | (rw [if_neg (cat_le2 (by assumption) (by assumption))])
                rotate_left
                · simp only [Act.put, List.setIfInBounds_toArray, List.set_cons_zero, List.set_cons_succ, i64_w, i32_w]
                  rfl
                refine take_ (i := 13) (N := some 37) (v := ?_) (a' := ?_) #[true, true, true, true, true, true, true, true, true, true, true, true, true, true, true, true, false, false, false, false, false, false, false, false, false, false, false, false, false, false, false, false, false, false, false, false, false, false, false, false, false, false, false, false, false, false, false, false, false, false, false, false, false] rfl rfl (take_ofW HT_.out HW_.out (by kernel_rfl)) (fun _ _ _ h => h) (Or.inl ⟨by rfl, ?_⟩) hHeld ?_ ?_
                rotate_left
                · rintro w' ⟨s0, s1, s2, s3, s4, s5⟩
                  go_simp
                  first | with_reducible rfl | (rw [if_neg (cat_le (by assumption) (by assumption))]) | (rw [if_neg (cat_le2 (by assumption) (by assumption))])
                rotate_left
                · simp only [Act.put, List.setIfInBounds_toArray, List.set_cons_zero, List.set_cons_succ, i64_w, i32_w]
                  rfl
                refine one_ (i := 16) (N := some 40) #[true, true, true, true, true, true, true, true, true, true, true, true, true, true, true, true, true, false, false, false, false, false, false, false, false, false, false, false, false, false, false, false, false, false, false, false, false, false, false, false, false, false, false, false, false, false, false, false, false, false, false, false, false] rfl rfl (one_of HT_.out (by kernel_rfl)) (by decide) (fun K hK => ?_)
                refine goes_ Try.func21 (by kernel_rfl) rfl #[.int .u64 t125, .int .u64 t126] (by rfl) rfl rfl (by (try simp only [List.map_toArray, List.map_cons, List.map_nil]); first | done | rfl | (simp only [List.length_drop, List.length_take]; rfl)) ?_
                with_reducible refine (digest_Join.calls t125 t126 t150 _ A13.out).mono ?_
                rintro e w' ⟨rfl, ⟨nd, rfl⟩⟩
                refine ⟨_, rfl, ?_⟩
                refine hK.out _ _ ⟨(blk_cell BK136.out 0).trans rfl, (blk_cell BK136.out 1).trans rfl, (blk_cell BK137.out 0).trans rfl, (blk_cell BK137.out 1).trans rfl, (blk_cell BK145.out 0).trans rfl, (blk_cell BK145.out 1).trans rfl⟩ (fun hHeld => ?_)
                clear hK K
                refine norm_ (a' := ?_) ?_ ?_
                rotate_left
                · show Act.put _ (some 40) _ = _
                  simp only [Act.put, List.setIfInBounds_toArray, List.set_cons_zero, List.set_cons_succ, i64_w, i32_w]
                  rfl
                refine one_ (i := 17) (N := some 41) #[true, true, true, true, true, true, true, true, true, true, true, true, true, true, true, true, true, true, false, false, false, false, false, false, false, false, false, false, false, false, false, false, false, false, false, false, false, false, false, false, false, false, false, false, false, false, false, false, false, false, false, false, false] rfl rfl (one_of HT_.out (by kernel_rfl)) (by decide) (fun K hK => ?_)
                refine Kd.R_lit_step (Kd.int .u64) _ 22 ?hg (N := 41) ?hd (xs := ([t150] : List Int)) (inner := [.int .u64 t150]) (ok := fun _ => True) (okp := fun _ => True) ?hr ?hp (fun _ hk => hk) trivial (Below.refl _ _) (Nat.le_refl _) (by simp) ?_; (case hd => rfl); (case hg => rfl); (case hr => first | (go_simp; done) | (go_simp; rfl)); (case hp => exact (Reps.one (show Kd.M (Kd.int .u64) _ _ _ t150 [.int .u64 t150] from rfl) (Reps.none _ _)))
                intro v152 w48 ho49 hb hg_ hnew_
                clear hg_ hnew_
                (first | rw [← Ny151.out] at ho49 | (simp only [Int.reduceToNat] at ho49; rw [← Ny151.out] at ho49))
                have n0_ := Aside0.mk (Kd.R_elder' (by (with_reducible repeat (first | apply Kd.R_alloc | apply Kd.R_drewN | apply Kd.R_drew)); exact HO124.out) (Kd.R_base ho49) hb)
                have n1_ := Aside0.mk (Kd.R_elder' (by (with_reducible repeat (first | apply Kd.R_alloc | apply Kd.R_drewN | apply Kd.R_drew)); exact HO130.out) (Kd.R_base ho49) hb)
                have n2_ := Aside0.mk (Kd.R_elder' (by (with_reducible repeat (first | apply Kd.R_alloc | apply Kd.R_drewN | apply Kd.R_drew)); exact HO134.out) (Kd.R_base ho49) hb)
                have n3_ := Aside0.mk (Kd.R_elder' (by (with_reducible repeat (first | apply Kd.R_alloc | apply Kd.R_drewN | apply Kd.R_drew)); exact HO143.out) (Kd.R_base ho49) hb)
                have n4_ := Aside0.mk (Kd.R_elder' (by (with_reducible repeat (first | apply Kd.R_alloc | apply Kd.R_drewN | apply Kd.R_drew)); exact HO148.out) (Kd.R_base ho49) hb)
                have n5_ := Aside0.mk (Kd.R_lower (Kd.R_new' (Kd.R_new' (Kd.R_new' (Kd.R_new' (Kd.R_new' ho49 (Kd.R_lt (by (with_reducible repeat (first | apply Kd.R_alloc | apply Kd.R_drewN | apply Kd.R_drew)); exact HO124.out))) (Kd.R_lt (by (with_reducible repeat (first | apply Kd.R_alloc | apply Kd.R_drewN | apply Kd.R_drew)); exact HO130.out))) (Kd.R_lt (by (with_reducible repeat (first | apply Kd.R_alloc | apply Kd.R_drewN | apply Kd.R_drew)); exact HO134.out))) (Kd.R_lt (by (with_reducible repeat (first | apply Kd.R_alloc | apply Kd.R_drewN | apply Kd.R_drew)); exact HO143.out))) (Kd.R_lt (by (with_reducible repeat (first | apply Kd.R_alloc | apply Kd.R_drewN | apply Kd.R_drew)); exact HO148.out))) (below_size (by repeat (first | (with_reducible first | exact HB.out | apply below_alloc | apply pw_below_drewN | apply below_drew1 | refine below_set ?_ GE136.out | refine below_set ?_ GE137.out | refine below_set ?_ GE145.out) | exact HB.out))))
                have n6_ := Aside0.mk (blk_below (g := gb136) (o := .cells #[.slice Ao32 t128.length co32, .int .i64 t131] 46 (0, 0)) (by (with_reducible repeat (first | refine blk_drewN ?_ _ | refine blk_drew ?_ | refine blk_alloc ?_ _)); exact BK136.out) hb)
                have n7_ := Aside0.mk (blk_below (g := gb137) (o := .cells #[.slice Ao35 t132.length co35, .int .i64 t135] 46 (0, 0)) (by (with_reducible repeat (first | refine blk_drewN ?_ _ | refine blk_drew ?_ | refine blk_alloc ?_ _)); exact BK137.out) hb)
                have n8_ := Aside0.mk (blk_below (g := gb145) (o := .cells #[.slice Ao39 t141.length co39, .int .i64 t144] 46 (0, 0)) (by (with_reducible repeat (first | refine blk_drewN ?_ _ | refine blk_drew ?_ | refine blk_alloc ?_ _)); exact BK145.out) hb)
                have n9_ := Aside0.mk (below_step (by repeat (first | (with_reducible first | exact HB.out | apply below_alloc | apply pw_below_drewN | apply below_drew1 | refine below_set ?_ GE136.out | refine below_set ?_ GE137.out | refine below_set ?_ GE145.out) | exact HB.out)) hb)
                clear HO124
                clear HO130
                clear HO134
                clear HO143
                clear HO148
                clear BK136
                clear BK137
                clear BK145
                clear HB
                have HO124 := n0_
                have HO130 := n1_
                have HO134 := n2_
                have HO143 := n3_
                have HO148 := n4_
                have HO153 := n5_
                have BK136 := n6_
                have BK137 := n7_
                have BK145 := n8_
                have HB := n9_
                clear n0_ n1_ n2_ n3_ n4_ n5_ n6_ n7_ n8_ n9_
                clear hb ho49
                obtain ⟨Ao50, co50, eo50⟩ := Kd.R_slice HO153.out
                (first | subst eo50 | (injection eo50 with f1_ f2_ f3_; have f4_ := f1_.symm; have f5_ := f3_.symm; clear f1_ f2_ f3_; subst f4_; subst f5_))
                refine hK.out _ _ ⟨(blk_cell BK136.out 0).trans rfl, (blk_cell BK136.out 1).trans rfl, (blk_cell BK137.out 0).trans rfl, (blk_cell BK137.out 1).trans rfl, (blk_cell BK145.out 0).trans rfl, (blk_cell BK145.out 1).trans rfl⟩ (fun hHeld => ?_)
                clear hK K
                refine norm_ (a' := ?_) ?_ ?_
                rotate_left
                · show Act.put _ (some 41) _ = _
                  simp only [Act.put, List.setIfInBounds_toArray, List.set_cons_zero, List.set_cons_succ, i64_w, i32_w]
                  rfl
                refine one_ (i := 18) (N := some 42) #[true, true, true, true, true, true, true, true, true, true, true, true, true, true, true, true, true, true, true, false, false, false, false, false, false, false, false, false, false, false, false, false, false, false, false, false, false, false, false, false, false, false, false, false, false, false, false, false, false, false, false, false, false] rfl rfl (one_of HT_.out (by kernel_rfl)) (by decide) (fun K hK => ?_)
                refine goes_ Try.func36 (by kernel_rfl) rfl #[.slice Ao35 t132.length co35, .slice Ao50 y151.length co50] (by rfl) rfl rfl (by (try simp only [List.map_toArray, List.map_cons, List.map_nil]); first | done | rfl | (simp only [List.length_drop, List.length_take]; rfl)) ?_
                with_reducible refine (paroleref04_Same.calls k _ _ t132 _ _ y151 true _ ?side1 ?side2 ?side3 ?side4 A14.out).mono ?_
                (case side1 => repeat (first | exact (Kd.R_reads' HO134.out).2.2 | (with_reducible refine Kd.C_alloc ?_ _) | (with_reducible refine Kd.C_drewN ?_ _) | (with_reducible refine Kd.C_drew ?_)))
                (case side2 => exact (Kd.R_reads' HO134.out).2.1)
                (case side3 => repeat (first | exact (Kd.R_reads' HO153.out).2.2 | (with_reducible refine Kd.C_alloc ?_ _) | (with_reducible refine Kd.C_drewN ?_ _) | (with_reducible refine Kd.C_drew ?_)))
                (case side4 => exact (Kd.R_reads' HO153.out).2.1)
                rintro e w' ⟨rfl, ⟨nd, rfl⟩⟩
                refine ⟨_, rfl, ?_⟩
                refine hK.out _ _ ⟨(blk_cell BK136.out 0).trans rfl, (blk_cell BK136.out 1).trans rfl, (blk_cell BK137.out 0).trans rfl, (blk_cell BK137.out 1).trans rfl, (blk_cell BK145.out 0).trans rfl, (blk_cell BK145.out 1).trans rfl⟩ (fun hHeld => ?_)
                clear hK K
                refine norm_ (a' := ?_) ?_ ?_
                rotate_left
                · show Act.put _ (some 42) _ = _
                  simp only [Act.put, List.setIfInBounds_toArray, List.set_cons_zero, List.set_cons_succ, i64_w, i32_w]
                  rfl
                refine pure_ (i := 19) (N := some 43) (v := ?_) (a' := ?_) #[true, true, true, true, true, true, true, true, true, true, true, true, true, true, true, true, true, true, true, true, false, false, false, false, false, false, false, false, false, false, false, false, false, false, false, false, false, false, false, false, false, false, false, false, false, false, false, false, false, false, false, false, false] rfl rfl (any_of HT_.out (by kernel_rfl)) (fun _ _ _ h => h) (Or.inl ⟨by rfl, ?_⟩) ?_ ?_
                rotate_left
                · intro w'
                  go_simp
                  first | with_reducible rfl | (rw [if_neg (cat_le (by assumption) (by assumption))]) | (rw [if_neg (cat_le2 (by assumption) (by assumption))])
                rotate_left
                · simp only [Act.put, List.setIfInBounds_toArray, List.set_cons_zero, List.set_cons_succ, i64_w, i32_w]
                  rfl
                refine pure_ (i := 20) (N := some 44) (v := ?_) (a' := ?_) #[true, true, true, true, true, true, true, true, true, true, true, true, true, true, true, true, true, true, true, true, true, false, false, false, false, false, false, false, false, false, false, false, false, false, false, false, false, false, false, false, false, false, false, false, false, false, false, false, false, false, false, false, false] rfl rfl (any_of HT_.out (by kernel_rfl)) (fun _ _ _ h => h) (Or.inl ⟨by rfl, ?_⟩) ?_ ?_
                rotate_left
                · intro w'
                  go_simp
                  first | with_reducible rfl | (rw [if_neg (cat_le (by assumption) (by assumption))]) | (rw [if_neg (cat_le2 (by assumption) (by assumption))])
                rotate_left
                · simp only [Act.put, List.setIfInBounds_toArray, List.set_cons_zero, List.set_cons_succ, i64_w, i32_w]
                  rfl
                refine pure_ (i := 21) (N := some 45) (v := ?_) (a' := ?_) #[true, true, true, true, true, true, true, true, true, true, true, true, true, true, true, true, true, true, true, true, true, true, false, false, false, false, false, false, false, false, false, false, false, false, false, false, false, false, false, false, false, false, false, false, false, false, false, false, false, false, false, false, false] rfl rfl (any_of HT_.out (by kernel_rfl)) (fun _ _ _ h => h) (Or.inl ⟨by rfl, ?_⟩) ?_ ?_
                rotate_left
                · intro w'
                  go_simp
                  first | with_reducible rfl | (rw [if_neg (cat_le (by assumption) (by assumption))]) | (rw [if_neg (cat_le2 (by assumption) (by assumption))])
                rotate_left
                · simp only [Act.put, List.setIfInBounds_toArray, List.set_cons_zero, List.set_cons_succ, i64_w, i32_w]
                  rfl
                refine pure_ (i := 23) (N := some 47) (v := ?_) (a' := ?_) #[true, true, true, true, true, true, true, true, true, true, true, true, true, true, true, true, true, true, true, true, true, true, false, true, false, false, false, false, false, false, false, false, false, false, false, false, false, false, false, false, false, false, false, false, false, false, false, false, false, false, false, false, false] rfl rfl (any_of HT_.out (by kernel_rfl)) (fun _ _ _ h => h) (Or.inl ⟨by rfl, ?_⟩) ?_ ?_
                rotate_left
                · intro w'
                  go_simp
                  first | with_reducible rfl | (rw [if_neg (cat_le (by assumption) (by assumption))]) | (rw [if_neg (cat_le2 (by assumption) (by assumption))])
                rotate_left
                · simp only [Act.put, List.setIfInBounds_toArray, List.set_cons_zero, List.set_cons_succ, i64_w, i32_w]
                  rfl
                refine one_ (i := 22) (N := some 46) #[true, true, true, true, true, true, true, true, true, true, true, true, true, true, true, true, true, true, true, true, true, true, true, true, false, false, false, false, false, false, false, false, false, false, false, false, false, false, false, false, false, false, false, false, false, false, false, false, false, false, false, false, false] rfl rfl (one_of HT_.out (by kernel_rfl)) (by decide) (fun K hK => ?_)
                refine goes_ Try.func33 (by kernel_rfl) rfl #[.slice Ao27 y122.length co27] (by rfl) rfl rfl (by (try simp only [List.map_toArray, List.map_cons, List.map_nil]); first | done | rfl | (simp only [List.length_drop, List.length_take]; rfl)) ?_
                with_reducible refine (merkle_Root.calls _ _ y122 t155 _ ?side1 ?side2 A16.out).mono ?_
                (case side1 => repeat (first | exact (Kd.R_reads' HO124.out).2.2 | (with_reducible refine Kd.C_alloc ?_ _) | (with_reducible refine Kd.C_drewN ?_ _) | (with_reducible refine Kd.C_drew ?_)))
                (case side2 => exact (Kd.R_reads' HO124.out).2.1)
                rintro e w' ⟨rfl, ⟨nd, rfl⟩⟩
                refine ⟨_, rfl, ?_⟩
                refine hK.out _ _ ⟨(blk_cell BK136.out 0).trans rfl, (blk_cell BK136.out 1).trans rfl, (blk_cell BK137.out 0).trans rfl, (blk_cell BK137.out 1).trans rfl, (blk_cell BK145.out 0).trans rfl, (blk_cell BK145.out 1).trans rfl⟩ (fun hHeld => ?_)
                clear hK K
                refine norm_ (a' := ?_) ?_ ?_
                rotate_left
                · show Act.put _ (some 46) _ = _
                  simp only [Act.put, List.setIfInBounds_toArray, List.set_cons_zero, List.set_cons_succ, i64_w, i32_w]
                  rfl
                refine pure_ (i := 24) (N := some 48) (v := ?_) (a' := ?_) #[true, true, true, true, true, true, true, true, true, true, true, true, true, true, true, true, true, true, true, true, true, true, true, true, true, false, false, false, false, false, false, false, false, false, false, false, false, false, false, false, false, false, false, false, false, false, false, false, false, false, false, false, false] rfl rfl (any_of HT_.out (by kernel_rfl)) (fun _ _ _ h => h) (Or.inl ⟨by rfl, ?_⟩) ?_ ?_
                rotate_left
                · intro w'
                  go_simp
                  first | with_reducible rfl | (rw [if_neg (cat_le (by assumption) (by assumption))]) | (rw [if_neg (cat_le2 (by assumption) (by assumption))])
                rotate_left
                · simp only [Act.put, List.setIfInBounds_toArray, List.set_cons_zero, List.set_cons_succ, i64_w, i32_w]
                  rfl
                refine pure_ (i := 25) (N := some 49) (v := ?_) (a' := ?_) #[true, true, true, true, true, true, true, true, true, true, true, true, true, true, true, true, true, true, true, true, true, true, true, true, true, true, false, false, false, false, false, false, false, false, false, false, false, false, false, false, false, false, false, false, false, false, false, false, false, false, false, false, false] rfl rfl (any_of HT_.out (by kernel_rfl)) (fun _ _ _ h => h) (Or.inl ⟨by rfl, ?_⟩) ?_ ?_
                rotate_left
                · intro w'
                  go_simp
                  first | with_reducible rfl | (rw [if_neg (cat_le (by assumption) (by assumption))]) | (rw [if_neg (cat_le2 (by assumption) (by assumption))])
                rotate_left
                · simp only [Act.put, List.setIfInBounds_toArray, List.set_cons_zero, List.set_cons_succ, i64_w, i32_w]
                  rfl
                refine pure_ (i := 26) (N := some 50) (v := ?_) (a' := ?_) #[true, true, true, true, true, true, true, true, true, true, true, true, true, true, true, true, true, true, true, true, true, true, true, true, true, true, true, false, false, false, false, false, false, false, false, false, false, false, false, false, false, false, false, false, false, false, false, false, false, false, false, false, false] rfl rfl (any_of HT_.out (by kernel_rfl)) (fun _ _ _ h => h) (Or.inl ⟨by rfl, ?_⟩) ?_ ?_
                rotate_left
                · intro w'
                  go_simp
                  first | with_reducible rfl | (rw [if_neg (cat_le (by assumption) (by assumption))]) | (rw [if_neg (cat_le2 (by assumption) (by assumption))])
                rotate_left
                · simp only [Act.put, List.setIfInBounds_toArray, List.set_cons_zero, List.set_cons_succ, i64_w, i32_w]
                  rfl
                refine one_ (i := 27) (N := some 51) #[true, true, true, true, true, true, true, true, true, true, true, true, true, true, true, true, true, true, true, true, true, true, true, true, true, true, true, true, false, false, false, false, false, false, false, false, false, false, false, false, false, false, false, false, false, false, false, false, false, false, false, false, false] rfl rfl (one_of HT_.out (by kernel_rfl)) (by decide) (fun K hK => ?_)
                refine goes_ Try.func33 (by kernel_rfl) rfl #[.slice none 0 0] (by rfl) rfl rfl (by (try simp only [List.map_toArray, List.map_cons, List.map_nil]); first | done | rfl | (simp only [List.length_drop, List.length_take]; rfl)) ?_
                refine (merkle_Root.calls _ _ ([] : List Int) t156 _ ?side1 ?side2 A18.out).mono ?_
                (case side1 => exact Kd.C_nil _ _)
                (case side2 => exact Nat.le_refl _)
                rintro e w' ⟨rfl, ⟨nd, rfl⟩⟩
                refine ⟨_, rfl, ?_⟩
                refine hK.out _ _ ⟨(blk_cell BK136.out 0).trans rfl, (blk_cell BK136.out 1).trans rfl, (blk_cell BK137.out 0).trans rfl, (blk_cell BK137.out 1).trans rfl, (blk_cell BK145.out 0).trans rfl, (blk_cell BK145.out 1).trans rfl⟩ (fun hHeld => ?_)
                clear hK K
                refine norm_ (a' := ?_) ?_ ?_
                rotate_left
                · show Act.put _ (some 51) _ = _
                  simp only [Act.put, List.setIfInBounds_toArray, List.set_cons_zero, List.set_cons_succ, i64_w, i32_w]
                  rfl
                refine one_ (i := 28) (N := some 52) #[true, true, true, true, true, true, true, true, true, true, true, true, true, true, true, true, true, true, true, true, true, true, true, true, true, true, true, true, true, false, false, false, false, false, false, false, false, false, false, false, false, false, false, false, false, false, false, false, false, false, false, false, false] rfl rfl (one_of HT_.out (by kernel_rfl)) (by decide) (fun K hK => ?_)
                refine goes_ Try.func21 (by kernel_rfl) rfl #[.int .u64 0, .int .u64 0] (by rfl) rfl rfl (by (try simp only [List.map_toArray, List.map_cons, List.map_nil]); first | done | rfl | (simp only [List.length_drop, List.length_take]; rfl)) ?_
                with_reducible refine (digest_Join.calls 0 0 t157 _ A19.out).mono ?_
                rintro e w' ⟨rfl, ⟨nd, rfl⟩⟩
                refine ⟨_, rfl, ?_⟩
                refine hK.out _ _ ⟨(blk_cell BK136.out 0).trans rfl, (blk_cell BK136.out 1).trans rfl, (blk_cell BK137.out 0).trans rfl, (blk_cell BK137.out 1).trans rfl, (blk_cell BK145.out 0).trans rfl, (blk_cell BK145.out 1).trans rfl⟩ (fun hHeld => ?_)
                clear hK K
                refine norm_ (a' := ?_) ?_ ?_
                rotate_left
                · show Act.put _ (some 52) _ = _
                  simp only [Act.put, List.setIfInBounds_toArray, List.set_cons_zero, List.set_cons_succ, i64_w, i32_w]
                  rfl
                refine pure_ (i := 29) (N := some 53) (v := ?_) (a' := ?_) #[true, true, true, true, true, true, true, true, true, true, true, true, true, true, true, true, true, true, true, true, true, true, true, true, true, true, true, true, true, true, false, false, false, false, false, false, false, false, false, false, false, false, false, false, false, false, false, false, false, false, false, false, false] rfl rfl (any_of HT_.out (by kernel_rfl)) (fun _ _ _ h => h) (Or.inl ⟨by rfl, ?_⟩) ?_ ?_
                rotate_left
                · intro w'
                  go_simp
                  first | with_reducible rfl | (rw [if_neg (cat_le (by assumption) (by assumption))]) | (rw [if_neg (cat_le2 (by assumption) (by assumption))])
                rotate_left
                · simp only [Act.put, List.setIfInBounds_toArray, List.set_cons_zero, List.set_cons_succ, i64_w, i32_w]
                  rfl
                refine pure_ (i := 30) (N := some 54) (v := ?_) (a' := ?_) #[true, true, true, true, true, true, true, true, true, true, true, true, true, true, true, true, true, true, true, true, true, true, true, true, true, true, true, true, true, true, true, false, false, false, false, false, false, false, false, false, false, false, false, false, false, false, false, false, false, false, false, false, false] rfl rfl (any_of HT_.out (by kernel_rfl)) (fun _ _ _ h => h) (Or.inl ⟨by rfl, ?_⟩) ?_ ?_
                rotate_left
                · intro w'
                  go_simp
                  first | with_reducible rfl | (rw [if_neg (cat_le (by assumption) (by assumption))]) | (rw [if_neg (cat_le2 (by assumption) (by assumption))])
                rotate_left
                · simp only [Act.put, List.setIfInBounds_toArray, List.set_cons_zero, List.set_cons_succ, i64_w, i32_w]
                  rfl
                refine pure_ (i := 31) (N := some 55) (v := ?_) (a' := ?_) #[true, true, true, true, true, true, true, true, true, true, true, true, true, true, true, true, true, true, true, true, true, true, true, true, true, true, true, true, true, true, true, true, false, false, false, false, false, false, false, false, false, false, false, false, false, false, false, false, false, false, false, false, false] rfl rfl (any_of HT_.out (by kernel_rfl)) (fun _ _ _ h => h) (Or.inl ⟨by rfl, ?_⟩) ?_ ?_
                rotate_left
                · intro w'
                  go_simp
                  first | with_reducible rfl | (rw [if_neg (cat_le (by assumption) (by assumption))]) | (rw [if_neg (cat_le2 (by assumption) (by assumption))])
                rotate_left
                · simp only [Act.put, List.setIfInBounds_toArray, List.set_cons_zero, List.set_cons_succ, i64_w, i32_w]
                  rfl
                refine pure_ (i := 32) (N := some 56) (v := ?_) (a' := ?_) #[true, true, true, true, true, true, true, true, true, true, true, true, true, true, true, true, true, true, true, true, true, true, true, true, true, true, true, true, true, true, true, true, true, false, false, false, false, false, false, false, false, false, false, false, false, false, false, false, false, false, false, false, false] rfl rfl (any_of HT_.out (by kernel_rfl)) (fun _ _ _ h => h) (Or.inl ⟨by rfl, ?_⟩) ?_ ?_
                rotate_left
                · intro w'
                  go_simp
                  first | with_reducible rfl | (rw [if_neg (cat_le (by assumption) (by assumption))]) | (rw [if_neg (cat_le2 (by assumption) (by assumption))])
                rotate_left
                · simp only [Act.put, List.setIfInBounds_toArray, List.set_cons_zero, List.set_cons_succ, i64_w, i32_w]
                  rfl
                refine take_ (i := 33) (N := some 57) (v := ?_) (a' := ?_) #[true, true, true, true, true, true, true, true, true, true, true, true, true, true, true, true, true, true, true, true, true, true, true, true, true, true, true, true, true, true, true, true, true, true, false, false, false, false, false, false, false, false, false, false, false, false, false, false, false, false, false, false, false] rfl rfl (take_ofW HT_.out HW_.out (by kernel_rfl)) (fun _ _ _ h => h) (Or.inl ⟨by rfl, ?_⟩) hHeld ?_ ?_
                rotate_left
                · rintro w' ⟨s0, s1, s2, s3, s4, s5⟩
                  go_simp
                  first | with_reducible rfl | (rw [if_neg (cat_le (by assumption) (by assumption))]) | (rw [if_neg (cat_le2 (by assumption) (by assumption))])
                rotate_left
                · simp only [Act.put, List.setIfInBounds_toArray, List.set_cons_zero, List.set_cons_succ, i64_w, i32_w]
                  rfl
                refine pure_ (i := 34) (N := some 58) (v := ?_) (a' := ?_) #[true, true, true, true, true, true, true, true, true, true, true, true, true, true, true, true, true, true, true, true, true, true, true, true, true, true, true, true, true, true, true, true, true, true, true, false, false, false, false, false, false, false, false, false, false, false, false, false, false, false, false, false, false] rfl rfl (any_of HT_.out (by kernel_rfl)) (fun _ _ _ h => h) (Or.inl ⟨by rfl, ?_⟩) ?_ ?_
                rotate_left
                · intro w'
                  go_simp
                  first | with_reducible rfl | (rw [if_neg (cat_le (by assumption) (by assumption))]) | (rw [if_neg (cat_le2 (by assumption) (by assumption))])
                rotate_left
                · simp only [Act.put, List.setIfInBounds_toArray, List.set_cons_zero, List.set_cons_succ, i64_w, i32_w]
                  rfl
                refine pure_ (i := 35) (N := some 59) (v := ?_) (a' := ?_) #[true, true, true, true, true, true, true, true, true, true, true, true, true, true, true, true, true, true, true, true, true, true, true, true, true, true, true, true, true, true, true, true, true, true, true, true, false, false, false, false, false, false, false, false, false, false, false, false, false, false, false, false, false] rfl rfl (any_of HT_.out (by kernel_rfl)) (fun _ _ _ h => h) (Or.inl ⟨by rfl, ?_⟩) ?_ ?_
                rotate_left
                · intro w'
                  go_simp
                  first | with_reducible rfl | (rw [if_neg (cat_le (by assumption) (by assumption))]) | (rw [if_neg (cat_le2 (by assumption) (by assumption))])
                rotate_left
                · simp only [Act.put, List.setIfInBounds_toArray, List.set_cons_zero, List.set_cons_succ, i64_w, i32_w]
                  rfl
                refine pure_ (i := 36) (N := some 60) (v := ?_) (a' := ?_) #[true, true, true, true, true, true, true, true, true, true, true, true, true, true, true, true, true, true, true, true, true, true, true, true, true, true, true, true, true, true, true, true, true, true, true, true, true, false, false, false, false, false, false, false, false, false, false, false, false, false, false, false, false] rfl rfl (any_of HT_.out (by kernel_rfl)) (fun _ _ _ h => h) (Or.inl ⟨by rfl, ?_⟩) ?_ ?_
                rotate_left
                · intro w'
                  go_simp
                  first | with_reducible rfl | (rw [if_neg (cat_le (by assumption) (by assumption))]) | (rw [if_neg (cat_le2 (by assumption) (by assumption))])
                rotate_left
                · simp only [Act.put, List.setIfInBounds_toArray, List.set_cons_zero, List.set_cons_succ, i64_w, i32_w]
                  rfl
                refine pure_ (i := 37) (N := some 61) (v := ?_) (a' := ?_) #[true, true, true, true, true, true, true, true, true, true, true, true, true, true, true, true, true, true, true, true, true, true, true, true, true, true, true, true, true, true, true, true, true, true, true, true, true, true, false, false, false, false, false, false, false, false, false, false, false, false, false, false, false] rfl rfl (any_of HT_.out (by kernel_rfl)) (fun _ _ _ h => h) (Or.inl ⟨by rfl, ?_⟩) ?_ ?_
                rotate_left
                · intro w'
                  go_simp
                  first | with_reducible rfl | (rw [if_neg (cat_le (by assumption) (by assumption))]) | (rw [if_neg (cat_le2 (by assumption) (by assumption))])
                rotate_left
                · simp only [Act.put, List.setIfInBounds_toArray, List.set_cons_zero, List.set_cons_succ, i64_w, i32_w]
                  rfl
                refine pure_ (i := 38) (N := some 62) (v := ?_) (a' := ?_) #[true, true, true, true, true, true, true, true, true, true, true, true, true, true, true, true, true, true, true, true, true, true, true, true, true, true, true, true, true, true, true, true, true, true, true, true, true, true, true, false, false, false, false, false, false, false, false, false, false, false, false, false, false] rfl rfl (any_of HT_.out (by kernel_rfl)) (fun _ _ _ h => h) (Or.inl ⟨by rfl, ?_⟩) ?_ ?_
                rotate_left
                · intro w'
                  go_simp
                  first | with_reducible rfl | (rw [if_neg (cat_le (by assumption) (by assumption))]) | (rw [if_neg (cat_le2 (by assumption) (by assumption))])
                rotate_left
                · simp only [Act.put, List.setIfInBounds_toArray, List.set_cons_zero, List.set_cons_succ, i64_w, i32_w]
                  rfl
                refine take_ (i := 39) (N := some 63) (v := ?_) (a' := ?_) #[true, true, true, true, true, true, true, true, true, true, true, true, true, true, true, true, true, true, true, true, true, true, true, true, true, true, true, true, true, true, true, true, true, true, true, true, true, true, true, true, false, false, false, false, false, false, false, false, false, false, false, false, false] rfl rfl (take_ofW HT_.out HW_.out (by kernel_rfl)) (fun _ _ _ h => h) (Or.inl ⟨by rfl, ?_⟩) hHeld ?_ ?_
                rotate_left
                · rintro w' ⟨s0, s1, s2, s3, s4, s5⟩
                  go_simp
                  first | with_reducible rfl | (rw [if_neg (cat_le (by assumption) (by assumption))]) | (rw [if_neg (cat_le2 (by assumption) (by assumption))])
                rotate_left
                · simp only [Act.put, List.setIfInBounds_toArray, List.set_cons_zero, List.set_cons_succ, i64_w, i32_w]
                  rfl
                refine pure_ (i := 40) (N := some 64) (v := ?_) (a' := ?_) #[true, true, true, true, true, true, true, true, true, true, true, true, true, true, true, true, true, true, true, true, true, true, true, true, true, true, true, true, true, true, true, true, true, true, true, true, true, true, true, true, true, false, false, false, false, false, false, false, false, false, false, false, false] rfl rfl (any_of HT_.out (by kernel_rfl)) (fun _ _ _ h => h) (Or.inl ⟨by rfl, ?_⟩) ?_ ?_
                rotate_left
                · intro w'
                  go_simp
                  first | with_reducible rfl | (rw [if_neg (cat_le (by assumption) (by assumption))]) | (rw [if_neg (cat_le2 (by assumption) (by assumption))])
                rotate_left
                · simp only [Act.put, List.setIfInBounds_toArray, List.set_cons_zero, List.set_cons_succ, i64_w, i32_w]
                  rfl
                refine one_ (i := 41) (N := some 65) #[true, true, true, true, true, true, true, true, true, true, true, true, true, true, true, true, true, true, true, true, true, true, true, true, true, true, true, true, true, true, true, true, true, true, true, true, true, true, true, true, true, true, false, false, false, false, false, false, false, false, false, false, false] rfl rfl (one_of HT_.out (by kernel_rfl)) (by decide) (fun K hK => ?_)
                refine goes_ Try.func35 (by kernel_rfl) rfl #[.int .u64 t140, .int .i64 3, .int .i64 1, .agg #[.int .u64 22, .slice Ao32 t128.length co32]] (by rfl) rfl rfl (by (try simp only [List.map_toArray, List.map_cons, List.map_nil]); first | done | rfl | (simp only [List.length_drop, List.length_take]; rfl)) ?_
                with_reducible refine (parolelaw04_check.calls t140 3 1 22 _ _ t128 t158 _ ?side1 ?side2 A22.out).mono ?_
                (case side1 => repeat (first | exact (Kd.R_reads' HO130.out).2.2 | (with_reducible refine Kd.C_alloc ?_ _) | (with_reducible refine Kd.C_drewN ?_ _) | (with_reducible refine Kd.C_drew ?_)))
                (case side2 => exact (Kd.R_reads' HO130.out).2.1)
                rintro e w51 ⟨rfl, hb⟩
                refine ⟨_, rfl, ?_⟩
                have n0_ := Aside0.mk (Kd.R_below (by (with_reducible repeat (first | apply Kd.R_alloc | apply Kd.R_drewN | apply Kd.R_drew)); exact HO124.out) hb)
                have n1_ := Aside0.mk (Kd.R_below (by (with_reducible repeat (first | apply Kd.R_alloc | apply Kd.R_drewN | apply Kd.R_drew)); exact HO130.out) hb)
                have n2_ := Aside0.mk (Kd.R_below (by (with_reducible repeat (first | apply Kd.R_alloc | apply Kd.R_drewN | apply Kd.R_drew)); exact HO134.out) hb)
                have n3_ := Aside0.mk (Kd.R_below (by (with_reducible repeat (first | apply Kd.R_alloc | apply Kd.R_drewN | apply Kd.R_drew)); exact HO143.out) hb)
                have n4_ := Aside0.mk (Kd.R_below (by (with_reducible repeat (first | apply Kd.R_alloc | apply Kd.R_drewN | apply Kd.R_drew)); exact HO148.out) hb)
                have n5_ := Aside0.mk (Kd.R_below (by (with_reducible repeat (first | apply Kd.R_alloc | apply Kd.R_drewN | apply Kd.R_drew)); exact HO153.out) hb)
                have n6_ := Aside0.mk (blk_below (g := gb136) (o := .cells #[.slice Ao32 t128.length co32, .int .i64 t131] 46 (0, 0)) (by (with_reducible repeat (first | refine blk_drewN ?_ _ | refine blk_drew ?_ | refine blk_alloc ?_ _)); exact BK136.out) hb)
                have n7_ := Aside0.mk (blk_below (g := gb137) (o := .cells #[.slice Ao35 t132.length co35, .int .i64 t135] 46 (0, 0)) (by (with_reducible repeat (first | refine blk_drewN ?_ _ | refine blk_drew ?_ | refine blk_alloc ?_ _)); exact BK137.out) hb)
                have n8_ := Aside0.mk (blk_below (g := gb145) (o := .cells #[.slice Ao39 t141.length co39, .int .i64 t144] 46 (0, 0)) (by (with_reducible repeat (first | refine blk_drewN ?_ _ | refine blk_drew ?_ | refine blk_alloc ?_ _)); exact BK145.out) hb)
                have n9_ := Aside0.mk (below_step (by repeat (first | (with_reducible first | exact HB.out | apply below_alloc | apply pw_below_drewN | apply below_drew1 | refine below_set ?_ GE136.out | refine below_set ?_ GE137.out | refine below_set ?_ GE145.out) | exact HB.out)) hb)
                clear HO124
                clear HO130
                clear HO134
                clear HO143
                clear HO148
                clear HO153
                clear BK136
                clear BK137
                clear BK145
                clear HB
                have HO124 := n0_
                have HO130 := n1_
                have HO134 := n2_
                have HO143 := n3_
                have HO148 := n4_
                have HO153 := n5_
                have BK136 := n6_
                have BK137 := n7_
                have BK145 := n8_
                have HB := n9_
                clear n0_ n1_ n2_ n3_ n4_ n5_ n6_ n7_ n8_ n9_
                (try clear hb)
                (try clear hb2)
                (try clear hk)
                (try clear hi)
                refine hK.out _ _ ⟨(blk_cell BK136.out 0).trans rfl, (blk_cell BK136.out 1).trans rfl, (blk_cell BK137.out 0).trans rfl, (blk_cell BK137.out 1).trans rfl, (blk_cell BK145.out 0).trans rfl, (blk_cell BK145.out 1).trans rfl⟩ (fun hHeld => ?_)
                clear hK K
                refine norm_ (a' := ?_) ?_ ?_
                rotate_left
                · show Act.put _ (some 65) _ = _
                  simp only [Act.put, List.setIfInBounds_toArray, List.set_cons_zero, List.set_cons_succ, i64_w, i32_w]
                  rfl
                refine pure_ (i := 42) (N := some 66) (v := ?_) (a' := ?_) #[true, true, true, true, true, true, true, true, true, true, true, true, true, true, true, true, true, true, true, true, true, true, true, true, true, true, true, true, true, true, true, true, true, true, true, true, true, true, true, true, true, true, true, false, false, false, false, false, false, false, false, false, false] rfl rfl (any_of HT_.out (by kernel_rfl)) (fun _ _ _ h => h) (Or.inl ⟨by rfl, ?_⟩) ?_ ?_
                rotate_left
                · intro w'
                  go_simp
                  first | with_reducible rfl | (rw [if_neg (cat_le (by assumption) (by assumption))]) | (rw [if_neg (cat_le2 (by assumption) (by assumption))])
                rotate_left
                · simp only [Act.put, List.setIfInBounds_toArray, List.set_cons_zero, List.set_cons_succ, i64_w, i32_w]
                  rfl
                refine pure_ (i := 43) (N := some 67) (v := ?_) (a' := ?_) #[true, true, true, true, true, true, true, true, true, true, true, true, true, true, true, true, true, true, true, true, true, true, true, true, true, true, true, true, true, true, true, true, true, true, true, true, true, true, true, true, true, true, true, true, false, false, false, false, false, false, false, false, false] rfl rfl (any_of HT_.out (by kernel_rfl)) (fun _ _ _ h => h) (Or.inl ⟨by rfl, ?_⟩) ?_ ?_
                rotate_left
                · intro w'
                  go_simp
                  first | with_reducible rfl | (rw [if_neg (cat_le (by assumption) (by assumption))]) | (rw [if_neg (cat_le2 (by assumption) (by assumption))])
                rotate_left
                · simp only [Act.put, List.setIfInBounds_toArray, List.set_cons_zero, List.set_cons_succ, i64_w, i32_w]
                  rfl
                refine pure_ (i := 44) (N := some 68) (v := ?_) (a' := ?_) #[true, true, true, true, true, true, true, true, true, true, true, true, true, true, true, true, true, true, true, true, true, true, true, true, true, true, true, true, true, true, true, true, true, true, true, true, true, true, true, true, true, true, true, true, true, false, false, false, false, false, false, false, false] rfl rfl (any_of HT_.out (by kernel_rfl)) (fun _ _ _ h => h) (Or.inl ⟨by rfl, ?_⟩) ?_ ?_
                rotate_left
                · intro w'
                  go_simp
                  first | with_reducible rfl | (rw [if_neg (cat_le (by assumption) (by assumption))]) | (rw [if_neg (cat_le2 (by assumption) (by assumption))])
                rotate_left
                · simp only [Act.put, List.setIfInBounds_toArray, List.set_cons_zero, List.set_cons_succ, i64_w, i32_w]
                  rfl
                refine pure_ (i := 45) (N := some 69) (v := ?_) (a' := ?_) #[true, true, true, true, true, true, true, true, true, true, true, true, true, true, true, true, true, true, true, true, true, true, true, true, true, true, true, true, true, true, true, true, true, true, true, true, true, true, true, true, true, true, true, true, true, true, false, false, false, false, false, false, false] rfl rfl (any_of HT_.out (by kernel_rfl)) (fun _ _ _ h => h) (Or.inl ⟨by rfl, ?_⟩) ?_ ?_
                rotate_left
                · intro w'
                  go_simp
                  first | with_reducible rfl | (rw [if_neg (cat_le (by assumption) (by assumption))]) | (rw [if_neg (cat_le2 (by assumption) (by assumption))])
                rotate_left
                · simp only [Act.put, List.setIfInBounds_toArray, List.set_cons_zero, List.set_cons_succ, i64_w, i32_w]
                  rfl
                refine pure_ (i := 46) (N := some 70) (v := ?_) (a' := ?_) #[true, true, true, true, true, true, true, true, true, true, true, true, true, true, true, true, true, true, true, true, true, true, true, true, true, true, true, true, true, true, true, true, true, true, true, true, true, true, true, true, true, true, true, true, true, true, true, false, false, false, false, false, false] rfl rfl (any_of HT_.out (by kernel_rfl)) (fun _ _ _ h => h) (Or.inl ⟨by rfl, ?_⟩) ?_ ?_
                rotate_left
                · intro w'
                  go_simp
                  first | with_reducible rfl | (rw [if_neg (cat_le (by assumption) (by assumption))]) | (rw [if_neg (cat_le2 (by assumption) (by assumption))])
                rotate_left
                · simp only [Act.put, List.setIfInBounds_toArray, List.set_cons_zero, List.set_cons_succ, i64_w, i32_w]
                  rfl
                refine take_ (i := 47) (N := some 71) (v := ?_) (a' := ?_) #[true, true, true, true, true, true, true, true, true, true, true, true, true, true, true, true, true, true, true, true, true, true, true, true, true, true, true, true, true, true, true, true, true, true, true, true, true, true, true, true, true, true, true, true, true, true, true, true, false, false, false, false, false] rfl rfl (take_ofW HT_.out HW_.out (by kernel_rfl)) (fun _ _ _ h => h) (Or.inl ⟨by rfl, ?_⟩) hHeld ?_ ?_
                rotate_left
                · rintro w' ⟨s0, s1, s2, s3, s4, s5⟩
                  go_simp
                  first | with_reducible rfl | (rw [if_neg (cat_le (by assumption) (by assumption))]) | (rw [if_neg (cat_le2 (by assumption) (by assumption))])
                rotate_left
                · simp only [Act.put, List.setIfInBounds_toArray, List.set_cons_zero, List.set_cons_succ, i64_w, i32_w]
                  rfl
                refine pure_ (i := 48) (N := some 72) (v := ?_) (a' := ?_) #[true, true, true, true, true, true, true, true, true, true, true, true, true, true, true, true, true, true, true, true, true, true, true, true, true, true, true, true, true, true, true, true, true, true, true, true, true, true, true, true, true, true, true, true, true, true, true, true, true, false, false, false, false] rfl rfl (any_of HT_.out (by kernel_rfl)) (fun _ _ _ h => h) (Or.inl ⟨by rfl, ?_⟩) ?_ ?_
                rotate_left
                · intro w'
                  go_simp
                  first | with_reducible rfl | (rw [if_neg (cat_le (by assumption) (by assumption))]) | (rw [if_neg (cat_le2 (by assumption) (by assumption))])
                rotate_left
                · simp only [Act.put, List.setIfInBounds_toArray, List.set_cons_zero, List.set_cons_succ, i64_w, i32_w]
                  rfl
                refine one_ (i := 49) (N := some 73) #[true, true, true, true, true, true, true, true, true, true, true, true, true, true, true, true, true, true, true, true, true, true, true, true, true, true, true, true, true, true, true, true, true, true, true, true, true, true, true, true, true, true, true, true, true, true, true, true, true, true, false, false, false] rfl rfl (one_of HT_.out (by kernel_rfl)) (by decide) (fun K hK => ?_)
                refine goes_ Try.func35 (by kernel_rfl) rfl #[.int .u64 t140, .int .i64 3, .int .i64 1, .agg #[.int .u64 23, .slice Ao32 t128.length co32]] (by rfl) rfl rfl (by (try simp only [List.map_toArray, List.map_cons, List.map_nil]); first | done | rfl | (simp only [List.length_drop, List.length_take]; rfl)) ?_
                with_reducible refine (parolelaw04_check.calls t140 3 1 23 _ _ t128 t159 _ ?side1 ?side2 A24.out).mono ?_
                (case side1 => repeat (first | exact (Kd.R_reads' HO130.out).2.2 | (with_reducible refine Kd.C_alloc ?_ _) | (with_reducible refine Kd.C_drewN ?_ _) | (with_reducible refine Kd.C_drew ?_)))
                (case side2 => exact (Kd.R_reads' HO130.out).2.1)
                rintro e w52 ⟨rfl, hb⟩
                refine ⟨_, rfl, ?_⟩
                have n0_ := Aside0.mk (Kd.R_below (by (with_reducible repeat (first | apply Kd.R_alloc | apply Kd.R_drewN | apply Kd.R_drew)); exact HO124.out) hb)
                have n1_ := Aside0.mk (Kd.R_below (by (with_reducible repeat (first | apply Kd.R_alloc | apply Kd.R_drewN | apply Kd.R_drew)); exact HO130.out) hb)
                have n2_ := Aside0.mk (Kd.R_below (by (with_reducible repeat (first | apply Kd.R_alloc | apply Kd.R_drewN | apply Kd.R_drew)); exact HO134.out) hb)
                have n3_ := Aside0.mk (Kd.R_below (by (with_reducible repeat (first | apply Kd.R_alloc | apply Kd.R_drewN | apply Kd.R_drew)); exact HO143.out) hb)
                have n4_ := Aside0.mk (Kd.R_below (by (with_reducible repeat (first | apply Kd.R_alloc | apply Kd.R_drewN | apply Kd.R_drew)); exact HO148.out) hb)
                have n5_ := Aside0.mk (Kd.R_below (by (with_reducible repeat (first | apply Kd.R_alloc | apply Kd.R_drewN | apply Kd.R_drew)); exact HO153.out) hb)
                have n6_ := Aside0.mk (blk_below (g := gb136) (o := .cells #[.slice Ao32 t128.length co32, .int .i64 t131] 46 (0, 0)) (by (with_reducible repeat (first | refine blk_drewN ?_ _ | refine blk_drew ?_ | refine blk_alloc ?_ _)); exact BK136.out) hb)
                have n7_ := Aside0.mk (blk_below (g := gb137) (o := .cells #[.slice Ao35 t132.length co35, .int .i64 t135] 46 (0, 0)) (by (with_reducible repeat (first | refine blk_drewN ?_ _ | refine blk_drew ?_ | refine blk_alloc ?_ _)); exact BK137.out) hb)
                have n8_ := Aside0.mk (blk_below (g := gb145) (o := .cells #[.slice Ao39 t141.length co39, .int .i64 t144] 46 (0, 0)) (by (with_reducible repeat (first | refine blk_drewN ?_ _ | refine blk_drew ?_ | refine blk_alloc ?_ _)); exact BK145.out) hb)
                have n9_ := Aside0.mk (below_step (by repeat (first | (with_reducible first | exact HB.out | apply below_alloc | apply pw_below_drewN | apply below_drew1 | refine below_set ?_ GE136.out | refine below_set ?_ GE137.out | refine below_set ?_ GE145.out) | exact HB.out)) hb)
                clear HO124
                clear HO130
                clear HO134
                clear HO143
                clear HO148
                clear HO153
                clear BK136
                clear BK137
                clear BK145
                clear HB
                have HO124 := n0_
                have HO130 := n1_
                have HO134 := n2_
                have HO143 := n3_
                have HO148 := n4_
                have HO153 := n5_
                have BK136 := n6_
                have BK137 := n7_
                have BK145 := n8_
                have HB := n9_
                clear n0_ n1_ n2_ n3_ n4_ n5_ n6_ n7_ n8_ n9_
                (try clear hb)
                (try clear hb2)
                (try clear hk)
                (try clear hi)
                refine hK.out _ _ ⟨(blk_cell BK136.out 0).trans rfl, (blk_cell BK136.out 1).trans rfl, (blk_cell BK137.out 0).trans rfl, (blk_cell BK137.out 1).trans rfl, (blk_cell BK145.out 0).trans rfl, (blk_cell BK145.out 1).trans rfl⟩ (fun hHeld => ?_)
                clear hK K
                refine norm_ (a' := ?_) ?_ ?_
                rotate_left
                · show Act.put _ (some 73) _ = _
                  simp only [Act.put, List.setIfInBounds_toArray, List.set_cons_zero, List.set_cons_succ, i64_w, i32_w]
                  rfl
                refine pure_ (i := 50) (N := some 74) (v := ?_) (a' := ?_) #[true, true, true, true, true, true, true, true, true, true, true, true, true, true, true, true, true, true, true, true, true, true, true, true, true, true, true, true, true, true, true, true, true, true, true, true, true, true, true, true, true, true, true, true, true, true, true, true, true, true, true, false, false] rfl rfl (any_of HT_.out (by kernel_rfl)) (fun _ _ _ h => h) (Or.inl ⟨by rfl, ?_⟩) ?_ ?_
                rotate_left
                · intro w'
                  go_simp
                  first | with_reducible rfl | (rw [if_neg (cat_le (by assumption) (by assumption))]) | (rw [if_neg (cat_le2 (by assumption) (by assumption))])
                rotate_left
                · simp only [Act.put, List.setIfInBounds_toArray, List.set_cons_zero, List.set_cons_succ, i64_w, i32_w]
                  rfl
                refine pure_ (i := 51) (N := some 75) (v := ?_) (a' := ?_) #[true, true, true, true, true, true, true, true, true, true, true, true, true, true, true, true, true, true, true, true, true, true, true, true, true, true, true, true, true, true, true, true, true, true, true, true, true, true, true, true, true, true, true, true, true, true, true, true, true, true, true, true, false] rfl rfl (any_of HT_.out (by kernel_rfl)) (fun _ _ _ h => h) (Or.inl ⟨by rfl, ?_⟩) ?_ ?_
                rotate_left
                · intro w'
                  go_simp
                  first | with_reducible rfl | (rw [if_neg (cat_le (by assumption) (by assumption))]) | (rw [if_neg (cat_le2 (by assumption) (by assumption))])
                rotate_left
                · simp only [Act.put, List.setIfInBounds_toArray, List.set_cons_zero, List.set_cons_succ, i64_w, i32_w]
                  rfl
                refine pure_ (i := 52) (N := some 0) (v := ?_) (a' := ?_) #[true, true, true, true, true, true, true, true, true, true, true, true, true, true, true, true, true, true, true, true, true, true, true, true, true, true, true, true, true, true, true, true, true, true, true, true, true, true, true, true, true, true, true, true, true, true, true, true, true, true, true, true, true] rfl rfl (any_of HT_.out (by kernel_rfl)) (fun _ _ _ h => h) (Or.inl ⟨by rfl, ?_⟩) ?_ ?_
                rotate_left
                · intro w'
                  go_simp
                  first | with_reducible rfl | (rw [if_neg (cat_le (by assumption) (by assumption))]) | (rw [if_neg (cat_le2 (by assumption) (by assumption))])
                rotate_left
                · simp only [Act.put, List.setIfInBounds_toArray, List.set_cons_zero, List.set_cons_succ, i64_w, i32_w]
                  rfl
                refine done_ (done_of HT_.out (by kernel_rfl)) ?_
                try go_wp2
                go_ret
                exact ⟨by first | rfl | (simp [errW_none, errW_some] <;> rfl) | (simp [*, errW_none, errW_some] <;> rfl), by repeat (first | (with_reducible first | exact HB.out | apply below_alloc | apply pw_below_drewN | apply below_drew1 | refine below_set ?_ GE136.out | refine below_set ?_ GE137.out | refine below_set ?_ GE145.out) | exact HB.out)⟩
              · rw [if_neg c23] at H
                have c23b0 : (t158 == 0) = false := beq_eq_false_iff_ne.mpr c23
                have c23b1 : (t158 != 0) = true := bne_iff_ne.mpr c23
                exact absurd H (by simp)
            · rw [if_neg c21] at H
              have c21b0 : (t144 == 1) = false := beq_eq_false_iff_ne.mpr c21
              have c21b1 : (t144 != 1) = true := bne_iff_ne.mpr c21
              exact absurd H (by simp)
          · rw [if_neg c20] at H
            have c20b0 : (t156 == t157) = false := beq_eq_false_iff_ne.mpr c20
            have c20b1 : (t156 != t157) = true := bne_iff_ne.mpr c20
            exact absurd H (by simp)
        · rw [if_neg c17] at H
          have c17b0 : (t155 == t140) = false := beq_eq_false_iff_ne.mpr c17
          have c17b1 : (t155 != t140) = true := bne_iff_ne.mpr c17
          exact absurd H (by simp)
      · replace c15 := Bool.eq_false_iff.mpr c15
        subst c15
        have H1 : (none) = some r := by rw [if_neg (show ¬ (false = true) by decide)] at H; exact H
        clear H
        have H := H1
        clear H1
        exact absurd H (by simp)
    · replace c12 := Bool.eq_false_iff.mpr c12
      subst c12
      have H1 : (none) = some r := by rw [if_neg (show ¬ (false = true) by decide)] at H; exact H
      clear H
      have H := H1
      clear H1
      exact absurd H (by simp)
  · rw [if_neg c10] at H
    have c10b0 : (t131 == 0) = false := beq_eq_false_iff_ne.mpr c10
    have c10b1 : (t131 != 0) = true := bne_iff_ne.mpr c10
    exact absurd H (by simp)

end Go.Proofs.Ytikicibbbeofnaa.MF
