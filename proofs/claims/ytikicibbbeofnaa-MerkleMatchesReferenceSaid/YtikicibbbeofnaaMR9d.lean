-- Written by wip/hprint.py (this session's) with the kit's printer and contracts of our own. Not trusted: Lean checks it.
import Derived.Test.YtikicibbbeofnaaMR0
import Derived.Test.YtikicibbbeofnaaMR1
import Derived.Test.YtikicibbbeofnaaMR3
import Derived.Test.YtikicibbbeofnaaMR4
import Derived.Test.YtikicibbbeofnaaMR6
import Derived.Test.YtikicibbbeofnaaMR7
import Derived.Test.YtikicibbbeofnaaMR8
namespace Go.Proofs.Ytikicibbbeofnaa.MR
open List (setIfInBounds_toArray set_cons_zero set_cons_succ map_toArray map_cons map_nil)
open Go.RowKit Go.Proofs.YtikicibbbeofnaaW.PrintWords Go.Proofs.YtikicibbbeofnaaW.PrintLast Go.Proofs.YtikicibbbeofnaaW.PrintMore
attribute [local go_sem] max2_int min2_int max_two min_two max_three min_three max_four min_four   -- for this text's walks alone
set_option linter.unusedVariables false
set_option linter.unusedSimpArgs false

def bl_14 (n m : Nat) : Array Bool := ((List.range n).map fun i => m.testBit i).toArray
/-! ### parolelaw04_MerkleMatchesReference: function 14 -/
mutual
def parolelaw04_MerkleMatchesReference.j0 : Nat → List Int → Bool → Bool → Int → List Int → Int → List Int → Int → Int → Int → Option (Bool)
 | 0, _, _, _, _, _, _, _, _, _, _ => none
 | k + 1, x0, x7, x36, x304000, x304001, x304002, x304003, x305000, x305001, x305002 => if x36 = true then (some x7) else ((merkle_Root.f x0).bind fun t306 => ((parolelaw04_open.f x0 x305001).bind fun bt307 => ((paroleref04_Open.f k x0 x305001).bind fun bt311 => ((paroleref04_Root.f k x0).bind fun t317 => (if t306 = t317 then (if bt307.2 = bt311.2 then ((paroleref04_Same.f k bt307.1 bt311.1).bind fun t318 => (parolelaw04_MerkleMatchesReference.j1 k x0 x7 x305000 x305001 t306 (!t318) x304000 x304001 x304002 x304003 x305000 x305001 x305002 bt307.1 bt307.2)) else (parolelaw04_MerkleMatchesReference.j1 k x0 x7 x305000 x305001 t306 true x304000 x304001 x304002 x304003 x305000 x305001 x305002 bt307.1 bt307.2)) else (parolelaw04_MerkleMatchesReference.j1 k x0 x7 x305000 x305001 t306 true x304000 x304001 x304002 x304003 x305000 x305001 x305002 bt307.1 bt307.2))))))
def parolelaw04_MerkleMatchesReference.j1 : Nat → List Int → Bool → Int → Int → Int → Bool → Int → List Int → Int → List Int → Int → Int → Int → List Int → Int → Option (Bool)
 | 0, _, _, _, _, _, _, _, _, _, _, _, _, _, _, _ => none
 | k + 1, x0, x7, x8, x9, x10, x68, x304000, x304001, x304002, x304003, x305000, x305001, x305002, x316000, x316001 => if x68 = true then (none) else (if x316001 = 0 then (parolelaw04_MerkleMatchesReference.j2 k x0 x7 x8 x9 x10 ((Int.tmod x305002 2) == 0) x304000 x304001 x304002 x304003 x316000 x316001 x304000 x304001) else (parolelaw04_MerkleMatchesReference.j2 k x0 x7 x8 x9 x10 false x304000 x304001 x304002 x304003 x316000 x316001 x304000 x304001))
def parolelaw04_MerkleMatchesReference.j2 : Nat → List Int → Bool → Int → Int → Int → Bool → Int → List Int → Int → List Int → List Int → Int → Int → List Int → Option (Bool)
 | 0, _, _, _, _, _, _, _, _, _, _, _, _, _, _ => none
 | k + 1, x0, x7, x8, x9, x10, x79, x304000, x304001, x304002, x304003, x316000, x316001, x320000, x320001 => if x79 = true then (if 0 ≤ x9 then (if x9 < (x0.length : Int) then ((parolelaw04_check.f x10 (x0.length : Int) x9 (rd x0 x9) x316000).bind fun t321 => ((paroleref04_Check.f k x10 (x0.length : Int) x9 (rd x0 x9) x316000).bind fun t322 => (if t321 = t322 then ((parolelaw04_check.f x304000 (x0.length : Int) x9 x304002 x304003).bind fun t323 => ((paroleref04_Check.f k x304000 (x0.length : Int) x9 x304002 x304003).bind fun t324 => (parolelaw04_MerkleMatchesReference.j3 k x7 (x0.length : Int) x9 (t323 != t324) x304000 x304001 x304002 x304003 (rd x0 x9) x316000))) else (parolelaw04_MerkleMatchesReference.j3 k x7 (x0.length : Int) x9 true x304000 x304001 x304002 x304003 (rd x0 x9) x316000)))) else (none)) else (none)) else ((parolelaw04_check.f x10 x8 x9 x320000 x320001).bind fun t337 => ((paroleref04_Check.f k x10 x8 x9 x320000 x320001).bind fun t338 => (if t337 = t338 then ((parolelaw04_check.f x304000 x8 x9 x304002 x304003).bind fun t339 => ((paroleref04_Check.f k x304000 x8 x9 x304002 x304003).bind fun t340 => (parolelaw04_MerkleMatchesReference.j4 k x7 x8 x9 (t339 != t340) x304000 x304001 x304002 x304003 x320000 x320001))) else (parolelaw04_MerkleMatchesReference.j4 k x7 x8 x9 true x304000 x304001 x304002 x304003 x320000 x320001))))
def parolelaw04_MerkleMatchesReference.j3 : Nat → Bool → Int → Int → Bool → Int → List Int → Int → List Int → Int → List Int → Option (Bool)
 | 0, _, _, _, _, _, _, _, _, _, _ => none
 | k + 1, x7, x8, x9, x118, x304000, x304001, x304002, x304003, x320000, x320001 => if x118 = true then (none) else ((merkle_Collide.f k x8 x9 x320000 x320001 x304002 x304003).bind fun bt325 => ((paroleref04_Collide.f k x8 x9 x320000 x320001 x304002 x304003).bind fun bt331 => (if bt325.1 = bt331.1 then (if bt325.2.1 = bt331.2.1 then (if bt325.2.2.1 = bt331.2.2.1 then (if bt325.2.2.2.1 = bt331.2.2.2.1 then (if (bt325.2.2.2.2 == bt331.2.2.2.2) = true then (some x7) else (none)) else (none)) else (none)) else (none)) else (none))))
def parolelaw04_MerkleMatchesReference.j4 : Nat → Bool → Int → Int → Bool → Int → List Int → Int → List Int → Int → List Int → Option (Bool)
 | 0, _, _, _, _, _, _, _, _, _, _ => none
 | k + 1, x7, x8, x9, x118, x304000, x304001, x304002, x304003, x320000, x320001 => if x118 = true then (none) else ((merkle_Collide.f k x8 x9 x320000 x320001 x304002 x304003).bind fun bt341 => ((paroleref04_Collide.f k x8 x9 x320000 x320001 x304002 x304003).bind fun bt347 => (if bt341.1 = bt347.1 then (if bt341.2.1 = bt347.2.1 then (if bt341.2.2.1 = bt347.2.2.1 then (if bt341.2.2.2.1 = bt347.2.2.2.1 then (if (bt341.2.2.2.2 == bt347.2.2.2.2) = true then (some x7) else (none)) else (none)) else (none)) else (none)) else (none))))
end
def parolelaw04_MerkleMatchesReference.f (k : Nat) (l0 : List Int) (a1_0 : Int) (l1_1 : List Int) (a1_2 : Int) (l1_3 : List Int) (a2_0 : Int) (a2_1 : Int) (a2_2 : Int) : Option (Bool) := (parolelaw04_examples.f k).bind fun t305 => (if t305 = true then (if (l0.length : Int) > 60 then (parolelaw04_MerkleMatchesReference.j0 k l0 t305 true a1_0 l1_1 a1_2 l1_3 a2_0 a2_1 a2_2) else (if (l1_1.length : Int) > 60 then (parolelaw04_MerkleMatchesReference.j0 k l0 t305 true a1_0 l1_1 a1_2 l1_3 a2_0 a2_1 a2_2) else (parolelaw04_MerkleMatchesReference.j0 k l0 t305 (decide ((l1_3.length : Int) > 60)) a1_0 l1_1 a1_2 l1_3 a2_0 a2_1 a2_2))) else (none))
theorem parolelaw04_MerkleMatchesReference.mono_l : ∀ k, (∀ y0 y1 y2 y3 y4 y5 y6 y7 y8 y9, LeO (parolelaw04_MerkleMatchesReference.j0 k y0 y1 y2 y3 y4 y5 y6 y7 y8 y9) (parolelaw04_MerkleMatchesReference.j0 (k + 1) y0 y1 y2 y3 y4 y5 y6 y7 y8 y9)) ∧ (∀ y0 y1 y2 y3 y4 y5 y6 y7 y8 y9 y10 y11 y12 y13 y14, LeO (parolelaw04_MerkleMatchesReference.j1 k y0 y1 y2 y3 y4 y5 y6 y7 y8 y9 y10 y11 y12 y13 y14) (parolelaw04_MerkleMatchesReference.j1 (k + 1) y0 y1 y2 y3 y4 y5 y6 y7 y8 y9 y10 y11 y12 y13 y14)) ∧ (∀ y0 y1 y2 y3 y4 y5 y6 y7 y8 y9 y10 y11 y12 y13, LeO (parolelaw04_MerkleMatchesReference.j2 k y0 y1 y2 y3 y4 y5 y6 y7 y8 y9 y10 y11 y12 y13) (parolelaw04_MerkleMatchesReference.j2 (k + 1) y0 y1 y2 y3 y4 y5 y6 y7 y8 y9 y10 y11 y12 y13)) ∧ (∀ y0 y1 y2 y3 y4 y5 y6 y7 y8 y9, LeO (parolelaw04_MerkleMatchesReference.j3 k y0 y1 y2 y3 y4 y5 y6 y7 y8 y9) (parolelaw04_MerkleMatchesReference.j3 (k + 1) y0 y1 y2 y3 y4 y5 y6 y7 y8 y9)) ∧ (∀ y0 y1 y2 y3 y4 y5 y6 y7 y8 y9, LeO (parolelaw04_MerkleMatchesReference.j4 k y0 y1 y2 y3 y4 y5 y6 y7 y8 y9) (parolelaw04_MerkleMatchesReference.j4 (k + 1) y0 y1 y2 y3 y4 y5 y6 y7 y8 y9))
 | 0 => ⟨fun _ _ _ _ _ _ _ _ _ _ r h => by simp [parolelaw04_MerkleMatchesReference.j0] at h, fun _ _ _ _ _ _ _ _ _ _ _ _ _ _ _ r h => by simp [parolelaw04_MerkleMatchesReference.j1] at h, fun _ _ _ _ _ _ _ _ _ _ _ _ _ _ r h => by simp [parolelaw04_MerkleMatchesReference.j2] at h, fun _ _ _ _ _ _ _ _ _ _ r h => by simp [parolelaw04_MerkleMatchesReference.j3] at h, fun _ _ _ _ _ _ _ _ _ _ r h => by simp [parolelaw04_MerkleMatchesReference.j4] at h⟩
 | k + 1 => by
  obtain ⟨ih0, ih1, ih2, ih3, ih4⟩ := parolelaw04_MerkleMatchesReference.mono_l k
  refine ⟨?_, ?_, ?_, ?_, ?_⟩
  ·
   intro y0 y1 y2 y3 y4 y5 y6 y7 y8 y9
   unfold parolelaw04_MerkleMatchesReference.j0
   repeat' first
   | (with_reducible exact ih0 _ _ _ _ _ _ _ _ _ _)
   | (with_reducible exact ih1 _ _ _ _ _ _ _ _ _ _ _ _ _ _ _)
   | (with_reducible exact ih2 _ _ _ _ _ _ _ _ _ _ _ _ _ _)
   | (with_reducible exact ih3 _ _ _ _ _ _ _ _ _ _)
   | (with_reducible exact ih4 _ _ _ _ _ _ _ _ _ _)
   | (with_reducible exact merkle_Collide.mono _ _ _ _ _ _ _)
   | (with_reducible exact parolelaw04_examples.mono _)
   | (with_reducible exact paroleref04_Check.mono _ _ _ _ _ _)
   | (with_reducible exact paroleref04_Collide.mono _ _ _ _ _ _ _)
   | (with_reducible exact paroleref04_Open.mono _ _ _)
   | (with_reducible exact paroleref04_Root.mono _ _)
   | (with_reducible exact paroleref04_Same.mono _ _ _)
   | (with_reducible exact LeO.refl _)
   | (with_reducible exact LeO.none _)
   | (with_reducible refine LeO.ite ?_ ?_)
   | (with_reducible refine LeO.bind ?_ (fun _ => ?_))
   | exact ih0 _ _ _ _ _ _ _ _ _ _
   | exact ih1 _ _ _ _ _ _ _ _ _ _ _ _ _ _ _
   | exact ih2 _ _ _ _ _ _ _ _ _ _ _ _ _ _
   | exact ih3 _ _ _ _ _ _ _ _ _ _
   | exact ih4 _ _ _ _ _ _ _ _ _ _
   | exact merkle_Collide.mono _ _ _ _ _ _ _
   | exact parolelaw04_examples.mono _
   | exact paroleref04_Check.mono _ _ _ _ _ _
   | exact paroleref04_Collide.mono _ _ _ _ _ _ _
   | exact paroleref04_Open.mono _ _ _
   | exact paroleref04_Root.mono _ _
   | exact paroleref04_Same.mono _ _ _
   | exact LeO.none _
   | refine LeO.ite ?_ ?_
   | refine LeO.bind ?_ (fun _ => ?_)
  ·
   intro y0 y1 y2 y3 y4 y5 y6 y7 y8 y9 y10 y11 y12 y13 y14
   unfold parolelaw04_MerkleMatchesReference.j1
   repeat' first
   | (with_reducible exact ih0 _ _ _ _ _ _ _ _ _ _)
   | (with_reducible exact ih1 _ _ _ _ _ _ _ _ _ _ _ _ _ _ _)
   | (with_reducible exact ih2 _ _ _ _ _ _ _ _ _ _ _ _ _ _)
   | (with_reducible exact ih3 _ _ _ _ _ _ _ _ _ _)
   | (with_reducible exact ih4 _ _ _ _ _ _ _ _ _ _)
   | (with_reducible exact merkle_Collide.mono _ _ _ _ _ _ _)
   | (with_reducible exact parolelaw04_examples.mono _)
   | (with_reducible exact paroleref04_Check.mono _ _ _ _ _ _)
   | (with_reducible exact paroleref04_Collide.mono _ _ _ _ _ _ _)
   | (with_reducible exact paroleref04_Open.mono _ _ _)
   | (with_reducible exact paroleref04_Root.mono _ _)
   | (with_reducible exact paroleref04_Same.mono _ _ _)
   | (with_reducible exact LeO.refl _)
   | (with_reducible exact LeO.none _)
   | (with_reducible refine LeO.ite ?_ ?_)
   | (with_reducible refine LeO.bind ?_ (fun _ => ?_))
   | exact ih0 _ _ _ _ _ _ _ _ _ _
   | exact ih1 _ _ _ _ _ _ _ _ _ _ _ _ _ _ _
   | exact ih2 _ _ _ _ _ _ _ _ _ _ _ _ _ _
   | exact ih3 _ _ _ _ _ _ _ _ _ _
   | exact ih4 _ _ _ _ _ _ _ _ _ _
   | exact merkle_Collide.mono _ _ _ _ _ _ _
   | exact parolelaw04_examples.mono _
   | exact paroleref04_Check.mono _ _ _ _ _ _
   | exact paroleref04_Collide.mono _ _ _ _ _ _ _
   | exact paroleref04_Open.mono _ _ _
   | exact paroleref04_Root.mono _ _
   | exact paroleref04_Same.mono _ _ _
   | exact LeO.none _
   | refine LeO.ite ?_ ?_
   | refine LeO.bind ?_ (fun _ => ?_)
  ·
   intro y0 y1 y2 y3 y4 y5 y6 y7 y8 y9 y10 y11 y12 y13
   unfold parolelaw04_MerkleMatchesReference.j2
   repeat' first
   | (with_reducible exact ih0 _ _ _ _ _ _ _ _ _ _)
   | (with_reducible exact ih1 _ _ _ _ _ _ _ _ _ _ _ _ _ _ _)
   | (with_reducible exact ih2 _ _ _ _ _ _ _ _ _ _ _ _ _ _)
   | (with_reducible exact ih3 _ _ _ _ _ _ _ _ _ _)
   | (with_reducible exact ih4 _ _ _ _ _ _ _ _ _ _)
   | (with_reducible exact merkle_Collide.mono _ _ _ _ _ _ _)
   | (with_reducible exact parolelaw04_examples.mono _)
   | (with_reducible exact paroleref04_Check.mono _ _ _ _ _ _)
   | (with_reducible exact paroleref04_Collide.mono _ _ _ _ _ _ _)
   | (with_reducible exact paroleref04_Open.mono _ _ _)
   | (with_reducible exact paroleref04_Root.mono _ _)
   | (with_reducible exact paroleref04_Same.mono _ _ _)
   | (with_reducible exact LeO.refl _)
   | (with_reducible exact LeO.none _)
   | (with_reducible refine LeO.ite ?_ ?_)
   | (with_reducible refine LeO.bind ?_ (fun _ => ?_))
   | exact ih0 _ _ _ _ _ _ _ _ _ _
   | exact ih1 _ _ _ _ _ _ _ _ _ _ _ _ _ _ _
   | exact ih2 _ _ _ _ _ _ _ _ _ _ _ _ _ _
   | exact ih3 _ _ _ _ _ _ _ _ _ _
   | exact ih4 _ _ _ _ _ _ _ _ _ _
   | exact merkle_Collide.mono _ _ _ _ _ _ _
   | exact parolelaw04_examples.mono _
   | exact paroleref04_Check.mono _ _ _ _ _ _
   | exact paroleref04_Collide.mono _ _ _ _ _ _ _
   | exact paroleref04_Open.mono _ _ _
   | exact paroleref04_Root.mono _ _
   | exact paroleref04_Same.mono _ _ _
   | exact LeO.none _
   | refine LeO.ite ?_ ?_
   | refine LeO.bind ?_ (fun _ => ?_)
  ·
   intro y0 y1 y2 y3 y4 y5 y6 y7 y8 y9
   unfold parolelaw04_MerkleMatchesReference.j3
   repeat' first
   | (with_reducible exact ih0 _ _ _ _ _ _ _ _ _ _)
   | (with_reducible exact ih1 _ _ _ _ _ _ _ _ _ _ _ _ _ _ _)
   | (with_reducible exact ih2 _ _ _ _ _ _ _ _ _ _ _ _ _ _)
   | (with_reducible exact ih3 _ _ _ _ _ _ _ _ _ _)
   | (with_reducible exact ih4 _ _ _ _ _ _ _ _ _ _)
   | (with_reducible exact merkle_Collide.mono _ _ _ _ _ _ _)
   | (with_reducible exact parolelaw04_examples.mono _)
   | (with_reducible exact paroleref04_Check.mono _ _ _ _ _ _)
   | (with_reducible exact paroleref04_Collide.mono _ _ _ _ _ _ _)
   | (with_reducible exact paroleref04_Open.mono _ _ _)
   | (with_reducible exact paroleref04_Root.mono _ _)
   | (with_reducible exact paroleref04_Same.mono _ _ _)
   | (with_reducible exact LeO.refl _)
   | (with_reducible exact LeO.none _)
   | (with_reducible refine LeO.ite ?_ ?_)
   | (with_reducible refine LeO.bind ?_ (fun _ => ?_))
   | exact ih0 _ _ _ _ _ _ _ _ _ _
   | exact ih1 _ _ _ _ _ _ _ _ _ _ _ _ _ _ _
   | exact ih2 _ _ _ _ _ _ _ _ _ _ _ _ _ _
   | exact ih3 _ _ _ _ _ _ _ _ _ _
   | exact ih4 _ _ _ _ _ _ _ _ _ _
   | exact merkle_Collide.mono _ _ _ _ _ _ _
   | exact parolelaw04_examples.mono _
   | exact paroleref04_Check.mono _ _ _ _ _ _
   | exact paroleref04_Collide.mono _ _ _ _ _ _ _
   | exact paroleref04_Open.mono _ _ _
   | exact paroleref04_Root.mono _ _
   | exact paroleref04_Same.mono _ _ _
   | exact LeO.none _
   | refine LeO.ite ?_ ?_
   | refine LeO.bind ?_ (fun _ => ?_)
  ·
   intro y0 y1 y2 y3 y4 y5 y6 y7 y8 y9
   unfold parolelaw04_MerkleMatchesReference.j4
   repeat' first
   | (with_reducible exact ih0 _ _ _ _ _ _ _ _ _ _)
   | (with_reducible exact ih1 _ _ _ _ _ _ _ _ _ _ _ _ _ _ _)
   | (with_reducible exact ih2 _ _ _ _ _ _ _ _ _ _ _ _ _ _)
   | (with_reducible exact ih3 _ _ _ _ _ _ _ _ _ _)
   | (with_reducible exact ih4 _ _ _ _ _ _ _ _ _ _)
   | (with_reducible exact merkle_Collide.mono _ _ _ _ _ _ _)
   | (with_reducible exact parolelaw04_examples.mono _)
   | (with_reducible exact paroleref04_Check.mono _ _ _ _ _ _)
   | (with_reducible exact paroleref04_Collide.mono _ _ _ _ _ _ _)
   | (with_reducible exact paroleref04_Open.mono _ _ _)
   | (with_reducible exact paroleref04_Root.mono _ _)
   | (with_reducible exact paroleref04_Same.mono _ _ _)
   | (with_reducible exact LeO.refl _)
   | (with_reducible exact LeO.none _)
   | (with_reducible refine LeO.ite ?_ ?_)
   | (with_reducible refine LeO.bind ?_ (fun _ => ?_))
   | exact ih0 _ _ _ _ _ _ _ _ _ _
   | exact ih1 _ _ _ _ _ _ _ _ _ _ _ _ _ _ _
   | exact ih2 _ _ _ _ _ _ _ _ _ _ _ _ _ _
   | exact ih3 _ _ _ _ _ _ _ _ _ _
   | exact ih4 _ _ _ _ _ _ _ _ _ _
   | exact merkle_Collide.mono _ _ _ _ _ _ _
   | exact parolelaw04_examples.mono _
   | exact paroleref04_Check.mono _ _ _ _ _ _
   | exact paroleref04_Collide.mono _ _ _ _ _ _ _
   | exact paroleref04_Open.mono _ _ _
   | exact paroleref04_Root.mono _ _
   | exact paroleref04_Same.mono _ _ _
   | exact LeO.none _
   | refine LeO.ite ?_ ?_
   | refine LeO.bind ?_ (fun _ => ?_)
theorem parolelaw04_MerkleMatchesReference.mono : ∀ a0 a1 a2 a3 a4 a5 a6 a7 k, LeO (parolelaw04_MerkleMatchesReference.f k a0 a1 a2 a3 a4 a5 a6 a7) (parolelaw04_MerkleMatchesReference.f (k + 1) a0 a1 a2 a3 a4 a5 a6 a7) := by
 intro a0 a1 a2 a3 a4 a5 a6 a7 k
 obtain ⟨ih0, ih1, ih2, ih3, ih4⟩ := parolelaw04_MerkleMatchesReference.mono_l k
 unfold parolelaw04_MerkleMatchesReference.f
 repeat' first
   | (with_reducible exact ih0 _ _ _ _ _ _ _ _ _ _)
   | (with_reducible exact ih1 _ _ _ _ _ _ _ _ _ _ _ _ _ _ _)
   | (with_reducible exact ih2 _ _ _ _ _ _ _ _ _ _ _ _ _ _)
   | (with_reducible exact ih3 _ _ _ _ _ _ _ _ _ _)
   | (with_reducible exact ih4 _ _ _ _ _ _ _ _ _ _)
   | (with_reducible exact merkle_Collide.mono _ _ _ _ _ _ _)
   | (with_reducible exact parolelaw04_examples.mono _)
   | (with_reducible exact paroleref04_Check.mono _ _ _ _ _ _)
   | (with_reducible exact paroleref04_Collide.mono _ _ _ _ _ _ _)
   | (with_reducible exact paroleref04_Open.mono _ _ _)
   | (with_reducible exact paroleref04_Root.mono _ _)
   | (with_reducible exact paroleref04_Same.mono _ _ _)
   | (with_reducible exact LeO.refl _)
   | (with_reducible exact LeO.none _)
   | (with_reducible refine LeO.ite ?_ ?_)
   | (with_reducible refine LeO.bind ?_ (fun _ => ?_))
   | exact ih0 _ _ _ _ _ _ _ _ _ _
   | exact ih1 _ _ _ _ _ _ _ _ _ _ _ _ _ _ _
   | exact ih2 _ _ _ _ _ _ _ _ _ _ _ _ _ _
   | exact ih3 _ _ _ _ _ _ _ _ _ _
   | exact ih4 _ _ _ _ _ _ _ _ _ _
   | exact merkle_Collide.mono _ _ _ _ _ _ _
   | exact parolelaw04_examples.mono _
   | exact paroleref04_Check.mono _ _ _ _ _ _
   | exact paroleref04_Collide.mono _ _ _ _ _ _ _
   | exact paroleref04_Open.mono _ _ _
   | exact paroleref04_Root.mono _ _
   | exact paroleref04_Same.mono _ _ _
   | exact LeO.none _
   | refine LeO.ite ?_ ?_
   | refine LeO.bind ?_ (fun _ => ?_)
def parolelaw04_MerkleMatchesReference.T13 : Bool × List (List Nat × List Nat) := (true, [([], []), ([], []), ([0, 1], [0, 1]), ([2], [2]), ([], []), ([4], [4]), ([3, 5], [3, 5]), ([6, 0, 1, 2, 3, 4, 5, 6], [6])])
def parolelaw04_MerkleMatchesReference.B13 : List Nat := [0, 0, 3, 7, 0, 16, 63, 127]
theorem parolelaw04_MerkleMatchesReference.tab13 : rtab .any (opsOf Try.f14 13) = parolelaw04_MerkleMatchesReference.T13 := by kernel_rfl
theorem parolelaw04_MerkleMatchesReference.bits13 : waitsOk parolelaw04_MerkleMatchesReference.T13.2 parolelaw04_MerkleMatchesReference.B13 = true := by kernel_rfl
def parolelaw04_MerkleMatchesReference.T15 : Bool × List (List Nat × List Nat) := (true, [([], []), ([], []), ([], []), ([], []), ([0, 1, 2, 3], [0, 1, 2, 3]), ([], []), ([], []), ([], []), ([], []), ([5, 6, 7, 8, 4], [5, 6, 7, 8]), ([4, 9], [4, 9]), ([10, 9], [10]), ([11], [11]), ([12, 11], [11, 12]), ([13, 11], [11, 13]), ([11], [11]), ([11], [11]), ([11], [11]), ([17, 11], [11, 17]), ([14, 15, 16, 18, 11, 11], [11, 14, 15, 16, 18]), ([11], [11]), ([20, 11], [11, 20]), ([21, 11], [11, 21]), ([11], [11]), ([11], [11]), ([11], [11]), ([25, 11], [11, 25]), ([22, 23, 24, 26, 19, 11], [11, 22, 23, 24, 26]), ([19, 27, 11], [11, 19, 27]), ([11, 28], [11, 28])])
def parolelaw04_MerkleMatchesReference.B15 : List Nat := [0, 0, 0, 0, 15, 0, 0, 0, 0, 511, 1023, 2047, 4095, 8191, 16383, 4095, 4095, 4095, 135167, 524287, 4095, 1052671, 3149823, 4095, 4095, 4095, 33558527, 134217727, 268435455, 536870911]
theorem parolelaw04_MerkleMatchesReference.tab15 : rtab .any (opsOf Try.f14 15) = parolelaw04_MerkleMatchesReference.T15 := by kernel_rfl
theorem parolelaw04_MerkleMatchesReference.bits15 : waitsOk parolelaw04_MerkleMatchesReference.T15.2 parolelaw04_MerkleMatchesReference.B15 = true := by kernel_rfl
end Go.Proofs.Ytikicibbbeofnaa.MR
