-- Written by wip/hprint.py (this session's) with the kit's printer and contracts of our own. Not trusted: Lean checks it.
import Derived.Test.YtikicibbbeofnaaMB0
import Derived.Test.YtikicibbbeofnaaMB1
import Derived.Test.YtikicibbbeofnaaMB3
import Derived.Test.YtikicibbbeofnaaMB4
import Derived.Test.YtikicibbbeofnaaMB5
namespace Go.Proofs.Ytikicibbbeofnaa.MB
open List (setIfInBounds_toArray set_cons_zero set_cons_succ map_toArray map_cons map_nil)
open Go.RowKit Go.Proofs.YtikicibbbeofnaaW.PrintWords Go.Proofs.YtikicibbbeofnaaW.PrintLast Go.Proofs.YtikicibbbeofnaaW.PrintMore
attribute [local go_sem] max2_int min2_int max_two min_two max_three min_three max_four min_four   -- for this text's walks alone
set_option linter.unusedVariables false
set_option linter.unusedSimpArgs false

def bl_15 (n m : Nat) : Array Bool := ((List.range n).map fun i => m.testBit i).toArray
/-! ### parolelaw04_MerkleBinds: function 15 -/
mutual
def parolelaw04_MerkleBinds.j0 : Nat → List Int → Int → Bool → Bool → Int → List Int → Option (Bool)
 | 0, _, _, _, _, _, _ => none
 | k + 1, x0, x1, x7, x31, x191000, x191001 => if x31 = true then (some x7) else (if (x0.length : Int) = 0 then (none) else ((merkle_Root.f x0).bind fun t192 => ((parolelaw04_open.f x0 (Int.tmod (wrap64 (x1)) (x0.length : Int))).bind fun bt193 => (if 0 ≤ (Int.tmod (wrap64 (x1)) (x0.length : Int)) then (if (Int.tmod (wrap64 (x1)) (x0.length : Int)) < (x0.length : Int) then (if bt193.2 = 0 then ((parolelaw04_check.f t192 (x0.length : Int) (Int.tmod (wrap64 (x1)) (x0.length : Int)) (rd x0 (Int.tmod (wrap64 (x1)) (x0.length : Int))) bt193.1).bind fun t200 => (parolelaw04_MerkleBinds.j1 k x0 x7 (Int.tmod (wrap64 (x1)) (x0.length : Int)) t192 (t200 != 0) x191000 x191001 (rd x0 (Int.tmod (wrap64 (x1)) (x0.length : Int))) bt193.1)) else (parolelaw04_MerkleBinds.j1 k x0 x7 (Int.tmod (wrap64 (x1)) (x0.length : Int)) t192 true x191000 x191001 (rd x0 (Int.tmod (wrap64 (x1)) (x0.length : Int))) bt193.1)) else (none)) else (none)))))
def parolelaw04_MerkleBinds.j1 : Nat → List Int → Bool → Int → Int → Bool → Int → List Int → Int → List Int → Option (Bool)
 | 0, _, _, _, _, _, _, _, _, _ => none
 | k + 1, x0, x7, x8, x9, x61, x191000, x191001, x200000, x200001 => if x61 = true then (none) else (if x191000 = x200000 then ((paroleref04_Same.f k x191001 x200001).bind fun t201 => (parolelaw04_MerkleBinds.j2 k x0 x7 x8 x9 t201 x191000 x191001 x200000 x200001)) else (parolelaw04_MerkleBinds.j2 k x0 x7 x8 x9 false x191000 x191001 x200000 x200001))
def parolelaw04_MerkleBinds.j2 : Nat → List Int → Bool → Int → Int → Bool → Int → List Int → Int → List Int → Option (Bool)
 | 0, _, _, _, _, _, _, _, _, _ => none
 | k + 1, x0, x7, x8, x9, x12, x191000, x191001, x200000, x200001 => (merkle_Collide.f k (x0.length : Int) x8 x200000 x200001 x191000 x191001).bind fun bt202 => (if bt202.2.2.2.2 = true then (if bt202.1 = bt202.2.2.1 then (if bt202.2.1 = bt202.2.2.2.1 then (none) else ((digest_Join.f bt202.1 bt202.2.1).bind fun t208 => ((digest_Join.f bt202.2.2.1 bt202.2.2.2.1).bind fun t209 => (if t208 = t209 then ((parolelaw04_check.f x9 (x0.length : Int) x8 x191000 x191001).bind fun t210 => (if t210 = 0 then (if x12 = true then (none) else (some x7)) else (if x12 = true then (none) else (some x7)))) else (none))))) else ((digest_Join.f bt202.1 bt202.2.1).bind fun t211 => ((digest_Join.f bt202.2.2.1 bt202.2.2.2.1).bind fun t212 => (if t211 = t212 then ((parolelaw04_check.f x9 (x0.length : Int) x8 x191000 x191001).bind fun t213 => (if t213 = 0 then (if x12 = true then (none) else (some x7)) else (if x12 = true then (none) else (some x7)))) else (none))))) else ((parolelaw04_check.f x9 (x0.length : Int) x8 x191000 x191001).bind fun t214 => (if t214 = 0 then (if x12 = true then (some x7) else (none)) else (if x12 = true then (some x7) else (some x7)))))
end
def parolelaw04_MerkleBinds.f (k : Nat) (l0 : List Int) (a1 : Int) (a2_0 : Int) (l2_1 : List Int) : Option (Bool) := (parolelaw04_examples.f k).bind fun t191 => (if t191 = true then (if (l0.length : Int) = 0 then (parolelaw04_MerkleBinds.j0 k l0 a1 t191 true a2_0 l2_1) else (if (l0.length : Int) > 40 then (parolelaw04_MerkleBinds.j0 k l0 a1 t191 true a2_0 l2_1) else (parolelaw04_MerkleBinds.j0 k l0 a1 t191 (decide ((l2_1.length : Int) > 40)) a2_0 l2_1))) else (none))
theorem parolelaw04_MerkleBinds.mono_l : ∀ k, (∀ y0 y1 y2 y3 y4 y5, LeO (parolelaw04_MerkleBinds.j0 k y0 y1 y2 y3 y4 y5) (parolelaw04_MerkleBinds.j0 (k + 1) y0 y1 y2 y3 y4 y5)) ∧ (∀ y0 y1 y2 y3 y4 y5 y6 y7 y8, LeO (parolelaw04_MerkleBinds.j1 k y0 y1 y2 y3 y4 y5 y6 y7 y8) (parolelaw04_MerkleBinds.j1 (k + 1) y0 y1 y2 y3 y4 y5 y6 y7 y8)) ∧ (∀ y0 y1 y2 y3 y4 y5 y6 y7 y8, LeO (parolelaw04_MerkleBinds.j2 k y0 y1 y2 y3 y4 y5 y6 y7 y8) (parolelaw04_MerkleBinds.j2 (k + 1) y0 y1 y2 y3 y4 y5 y6 y7 y8))
 | 0 => ⟨fun _ _ _ _ _ _ r h => by simp [parolelaw04_MerkleBinds.j0] at h, fun _ _ _ _ _ _ _ _ _ r h => by simp [parolelaw04_MerkleBinds.j1] at h, fun _ _ _ _ _ _ _ _ _ r h => by simp [parolelaw04_MerkleBinds.j2] at h⟩
 | k + 1 => by
  obtain ⟨ih0, ih1, ih2⟩ := parolelaw04_MerkleBinds.mono_l k
  refine ⟨?_, ?_, ?_⟩
  ·
   intro y0 y1 y2 y3 y4 y5
   unfold parolelaw04_MerkleBinds.j0
   repeat' first
   | (with_reducible exact ih0 _ _ _ _ _ _)
   | (with_reducible exact ih1 _ _ _ _ _ _ _ _ _)
   | (with_reducible exact ih2 _ _ _ _ _ _ _ _ _)
   | (with_reducible exact merkle_Collide.mono _ _ _ _ _ _ _)
   | (with_reducible exact parolelaw04_examples.mono _)
   | (with_reducible exact paroleref04_Same.mono _ _ _)
   | (with_reducible exact LeO.refl _)
   | (with_reducible exact LeO.none _)
   | (with_reducible refine LeO.ite ?_ ?_)
   | (with_reducible refine LeO.bind ?_ (fun _ => ?_))
   | exact ih0 _ _ _ _ _ _
   | exact ih1 _ _ _ _ _ _ _ _ _
   | exact ih2 _ _ _ _ _ _ _ _ _
   | exact merkle_Collide.mono _ _ _ _ _ _ _
   | exact parolelaw04_examples.mono _
   | exact paroleref04_Same.mono _ _ _
   | exact LeO.none _
   | refine LeO.ite ?_ ?_
   | refine LeO.bind ?_ (fun _ => ?_)
  ·
   intro y0 y1 y2 y3 y4 y5 y6 y7 y8
   unfold parolelaw04_MerkleBinds.j1
   repeat' first
   | (with_reducible exact ih0 _ _ _ _ _ _)
   | (with_reducible exact ih1 _ _ _ _ _ _ _ _ _)
   | (with_reducible exact ih2 _ _ _ _ _ _ _ _ _)
   | (with_reducible exact merkle_Collide.mono _ _ _ _ _ _ _)
   | (with_reducible exact parolelaw04_examples.mono _)
   | (with_reducible exact paroleref04_Same.mono _ _ _)
   | (with_reducible exact LeO.refl _)
   | (with_reducible exact LeO.none _)
   | (with_reducible refine LeO.ite ?_ ?_)
   | (with_reducible refine LeO.bind ?_ (fun _ => ?_))
   | exact ih0 _ _ _ _ _ _
   | exact ih1 _ _ _ _ _ _ _ _ _
   | exact ih2 _ _ _ _ _ _ _ _ _
   | exact merkle_Collide.mono _ _ _ _ _ _ _
   | exact parolelaw04_examples.mono _
   | exact paroleref04_Same.mono _ _ _
   | exact LeO.none _
   | refine LeO.ite ?_ ?_
   | refine LeO.bind ?_ (fun _ => ?_)
  ·
   intro y0 y1 y2 y3 y4 y5 y6 y7 y8
   unfold parolelaw04_MerkleBinds.j2
   repeat' first
   | (with_reducible exact ih0 _ _ _ _ _ _)
   | (with_reducible exact ih1 _ _ _ _ _ _ _ _ _)
   | (with_reducible exact ih2 _ _ _ _ _ _ _ _ _)
   | (with_reducible exact merkle_Collide.mono _ _ _ _ _ _ _)
   | (with_reducible exact parolelaw04_examples.mono _)
   | (with_reducible exact paroleref04_Same.mono _ _ _)
   | (with_reducible exact LeO.refl _)
   | (with_reducible exact LeO.none _)
   | (with_reducible refine LeO.ite ?_ ?_)
   | (with_reducible refine LeO.bind ?_ (fun _ => ?_))
   | exact ih0 _ _ _ _ _ _
   | exact ih1 _ _ _ _ _ _ _ _ _
   | exact ih2 _ _ _ _ _ _ _ _ _
   | exact merkle_Collide.mono _ _ _ _ _ _ _
   | exact parolelaw04_examples.mono _
   | exact paroleref04_Same.mono _ _ _
   | exact LeO.none _
   | refine LeO.ite ?_ ?_
   | refine LeO.bind ?_ (fun _ => ?_)
theorem parolelaw04_MerkleBinds.mono : ∀ a0 a1 a2 a3 k, LeO (parolelaw04_MerkleBinds.f k a0 a1 a2 a3) (parolelaw04_MerkleBinds.f (k + 1) a0 a1 a2 a3) := by
 intro a0 a1 a2 a3 k
 obtain ⟨ih0, ih1, ih2⟩ := parolelaw04_MerkleBinds.mono_l k
 unfold parolelaw04_MerkleBinds.f
 repeat' first
   | (with_reducible exact ih0 _ _ _ _ _ _)
   | (with_reducible exact ih1 _ _ _ _ _ _ _ _ _)
   | (with_reducible exact ih2 _ _ _ _ _ _ _ _ _)
   | (with_reducible exact merkle_Collide.mono _ _ _ _ _ _ _)
   | (with_reducible exact parolelaw04_examples.mono _)
   | (with_reducible exact paroleref04_Same.mono _ _ _)
   | (with_reducible exact LeO.refl _)
   | (with_reducible exact LeO.none _)
   | (with_reducible refine LeO.ite ?_ ?_)
   | (with_reducible refine LeO.bind ?_ (fun _ => ?_))
   | exact ih0 _ _ _ _ _ _
   | exact ih1 _ _ _ _ _ _ _ _ _
   | exact ih2 _ _ _ _ _ _ _ _ _
   | exact merkle_Collide.mono _ _ _ _ _ _ _
   | exact parolelaw04_examples.mono _
   | exact paroleref04_Same.mono _ _ _
   | exact LeO.none _
   | refine LeO.ite ?_ ?_
   | refine LeO.bind ?_ (fun _ => ?_)
def parolelaw04_MerkleBinds.T9 : Bool × List (List Nat × List Nat) := (true, [([], []), ([], []), ([0, 1], [0, 1]), ([2], [2]), ([], []), ([4], [4]), ([3, 5], [3, 5]), ([], []), ([7, 6, 0, 1, 2, 3, 4, 5, 6, 7], [6, 7])])
def parolelaw04_MerkleBinds.B9 : List Nat := [0, 0, 3, 7, 0, 16, 63, 0, 255]
theorem parolelaw04_MerkleBinds.tab9 : rtab .any (opsOf Try.f15 9) = parolelaw04_MerkleBinds.T9 := by kernel_rfl
theorem parolelaw04_MerkleBinds.bits9 : waitsOk parolelaw04_MerkleBinds.T9.2 parolelaw04_MerkleBinds.B9 = true := by kernel_rfl
def parolelaw04_MerkleBinds.T14 : Bool × List (List Nat × List Nat) := (true, [([], []), ([0], [0]), ([1], [1]), ([2, 1], [1, 2]), ([1], [1]), ([4, 1], [1, 4]), ([3, 5, 1], [1, 3, 5]), ([6, 1, 1], [1, 6]), ([7], [7]), ([8, 7], [7, 8]), ([9, 7], [7, 9]), ([7], [7]), ([11, 7], [7, 11]), ([12, 7], [7, 12]), ([10, 13, 7, 7], [7, 10, 13]), ([7], [7]), ([15, 7], [7, 15]), ([16, 7], [7, 16]), ([7], [7]), ([18, 7], [7, 18]), ([19, 7], [7, 19]), ([17, 20, 14, 7], [7, 17, 20]), ([14, 21, 7], [7, 14, 21]), ([7, 22, 1], [1, 7, 22]), ([1, 23], [1, 23])])
def parolelaw04_MerkleBinds.B14 : List Nat := [0, 1, 3, 7, 3, 19, 63, 127, 255, 511, 1023, 255, 2303, 6399, 16383, 255, 33023, 98559, 255, 262399, 786687, 2097151, 4194303, 8388607, 16777215]
theorem parolelaw04_MerkleBinds.tab14 : rtab .any (opsOf Try.f15 14) = parolelaw04_MerkleBinds.T14 := by kernel_rfl
theorem parolelaw04_MerkleBinds.bits14 : waitsOk parolelaw04_MerkleBinds.T14.2 parolelaw04_MerkleBinds.B14 = true := by kernel_rfl
end Go.Proofs.Ytikicibbbeofnaa.MB
