-- Written by wip/hprint.py (this session's) with the kit's printer and contracts of our own. Not trusted: Lean checks it.
import Derived.Test.YtikicibbbeofnaaMR0
import Derived.Test.YtikicibbbeofnaaMR5
import Derived.Test.YtikicibbbeofnaaMR6
namespace Go.Proofs.Ytikicibbbeofnaa.MR
open List (setIfInBounds_toArray set_cons_zero set_cons_succ map_toArray map_cons map_nil)
open Go.RowKit Go.Proofs.YtikicibbbeofnaaW.PrintWords Go.Proofs.YtikicibbbeofnaaW.PrintLast Go.Proofs.YtikicibbbeofnaaW.PrintMore
attribute [local go_sem] max2_int min2_int max_two min_two max_three min_three max_four min_four   -- for this text's walks alone
set_option linter.unusedVariables false
set_option linter.unusedSimpArgs false

def bl_41 (n m : Nat) : Array Bool := ((List.range n).map fun i => m.testBit i).toArray
/-! ### paroleref04_Collide: function 41 -/
mutual
def paroleref04_Collide.j0 : Nat → Int → Int → Bool → Int → List Int → Int → List Int → Option (Int × Int × Int × Int × Bool)
 | 0, _, _, _, _, _, _, _ => none
 | k + 1, x0, x1, x34, x273000, x273001, x274000, x274001 => if x34 = true then (some (0, 0, 0, 0, false)) else ((paroleref04_Pairs.f k x0 x1 x273000 x273001).bind fun t279 => ((paroleref04_Pairs.f k x0 x1 x274000 x274001).bind fun t282 => (paroleref04_Collide.l0 k t279 t282 0)))
def paroleref04_Collide.l0 : Nat → List (S59) → List (S59) → Int → Option (Int × Int × Int × Int × Bool)
 | 0, _, _, _ => none
 | k + 1, x9, x10, x11 => if x11 < (x9.length : Int) then (if 0 ≤ x11 then (if x11 < (x10.length : Int) then (if ((rd_T59 x9 x11).f0) = ((rd_T59 x10 x11).f0) then (if ((rd_T59 x9 x11).f1) = ((rd_T59 x10 x11).f1) then (paroleref04_Collide.l0 k x9 x10 (wrap64 (x11 + 1))) else ((paroleref03_Join.f ((rd_T59 x9 x11).f0) ((rd_T59 x9 x11).f1)).bind fun t289 => ((paroleref03_Join.f ((rd_T59 x10 x11).f0) ((rd_T59 x10 x11).f1)).bind fun t292 => (if t289 = t292 then (some ((rd_T59 x9 x11).f0, (rd_T59 x9 x11).f1, (rd_T59 x10 x11).f0, (rd_T59 x10 x11).f1, true)) else (paroleref04_Collide.l0 k x9 x10 (wrap64 (x11 + 1))))))) else ((paroleref03_Join.f ((rd_T59 x9 x11).f0) ((rd_T59 x9 x11).f1)).bind fun t297 => ((paroleref03_Join.f ((rd_T59 x10 x11).f0) ((rd_T59 x10 x11).f1)).bind fun t300 => (if t297 = t300 then (some ((rd_T59 x9 x11).f0, (rd_T59 x9 x11).f1, (rd_T59 x10 x11).f0, (rd_T59 x10 x11).f1, true)) else (paroleref04_Collide.l0 k x9 x10 (wrap64 (x11 + 1))))))) else (none)) else (none)) else (some (0, 0, 0, 0, false))
end
def paroleref04_Collide.f (k : Nat) (a0 : Int) (a1 : Int) (a2_0 : Int) (l2_1 : List Int) (a3_0 : Int) (l3_1 : List Int) : Option (Int × Int × Int × Int × Bool) := (paroleref04_Place.f a0 a1).bind fun t275 => (if t275 = 0 then ((paroleref04_Steps.f k a0 a1).bind fun t276 => (if (l2_1.length : Int) = (t276.length : Int) then (paroleref04_Collide.j0 k a0 a1 ((l3_1.length : Int) != (l2_1.length : Int)) a2_0 l2_1 a3_0 l3_1) else (paroleref04_Collide.j0 k a0 a1 true a2_0 l2_1 a3_0 l3_1))) else (paroleref04_Collide.j0 k a0 a1 true a2_0 l2_1 a3_0 l3_1))
theorem paroleref04_Collide.mono_l : ∀ k, (∀ y0 y1 y2 y3 y4 y5 y6, LeO (paroleref04_Collide.j0 k y0 y1 y2 y3 y4 y5 y6) (paroleref04_Collide.j0 (k + 1) y0 y1 y2 y3 y4 y5 y6)) ∧ (∀ y0 y1 y2, LeO (paroleref04_Collide.l0 k y0 y1 y2) (paroleref04_Collide.l0 (k + 1) y0 y1 y2))
 | 0 => ⟨fun _ _ _ _ _ _ _ r h => by simp [paroleref04_Collide.j0] at h, fun _ _ _ r h => by simp [paroleref04_Collide.l0] at h⟩
 | k + 1 => by
  obtain ⟨ih0, ih1⟩ := paroleref04_Collide.mono_l k
  refine ⟨?_, ?_⟩
  ·
   intro y0 y1 y2 y3 y4 y5 y6
   unfold paroleref04_Collide.j0
   repeat' first
   | (with_reducible exact ih0 _ _ _ _ _ _ _)
   | (with_reducible exact ih1 _ _ _)
   | (with_reducible exact paroleref04_Pairs.mono _ _ _ _ _)
   | (with_reducible exact paroleref04_Steps.mono _ _ _)
   | (with_reducible exact LeO.refl _)
   | (with_reducible exact LeO.none _)
   | (with_reducible refine LeO.ite ?_ ?_)
   | (with_reducible refine LeO.bind ?_ (fun _ => ?_))
   | exact ih0 _ _ _ _ _ _ _
   | exact ih1 _ _ _
   | exact paroleref04_Pairs.mono _ _ _ _ _
   | exact paroleref04_Steps.mono _ _ _
   | exact LeO.none _
   | refine LeO.ite ?_ ?_
   | refine LeO.bind ?_ (fun _ => ?_)
  ·
   intro y0 y1 y2
   unfold paroleref04_Collide.l0
   repeat' first
   | (with_reducible exact ih0 _ _ _ _ _ _ _)
   | (with_reducible exact ih1 _ _ _)
   | (with_reducible exact paroleref04_Pairs.mono _ _ _ _ _)
   | (with_reducible exact paroleref04_Steps.mono _ _ _)
   | (with_reducible exact LeO.refl _)
   | (with_reducible exact LeO.none _)
   | (with_reducible refine LeO.ite ?_ ?_)
   | (with_reducible refine LeO.bind ?_ (fun _ => ?_))
   | exact ih0 _ _ _ _ _ _ _
   | exact ih1 _ _ _
   | exact paroleref04_Pairs.mono _ _ _ _ _
   | exact paroleref04_Steps.mono _ _ _
   | exact LeO.none _
   | refine LeO.ite ?_ ?_
   | refine LeO.bind ?_ (fun _ => ?_)
theorem paroleref04_Collide.mono : ∀ a0 a1 a2 a3 a4 a5 k, LeO (paroleref04_Collide.f k a0 a1 a2 a3 a4 a5) (paroleref04_Collide.f (k + 1) a0 a1 a2 a3 a4 a5) := by
 intro a0 a1 a2 a3 a4 a5 k
 obtain ⟨ih0, ih1⟩ := paroleref04_Collide.mono_l k
 unfold paroleref04_Collide.f
 repeat' first
   | (with_reducible exact ih0 _ _ _ _ _ _ _)
   | (with_reducible exact ih1 _ _ _)
   | (with_reducible exact paroleref04_Pairs.mono _ _ _ _ _)
   | (with_reducible exact paroleref04_Steps.mono _ _ _)
   | (with_reducible exact LeO.refl _)
   | (with_reducible exact LeO.none _)
   | (with_reducible refine LeO.ite ?_ ?_)
   | (with_reducible refine LeO.bind ?_ (fun _ => ?_))
   | exact ih0 _ _ _ _ _ _ _
   | exact ih1 _ _ _
   | exact paroleref04_Pairs.mono _ _ _ _ _
   | exact paroleref04_Steps.mono _ _ _
   | exact LeO.none _
   | refine LeO.ite ?_ ?_
   | refine LeO.bind ?_ (fun _ => ?_)
def paroleref04_Collide.T1 : Bool × List (List Nat × List Nat) := (true, [([], []), ([], []), ([0, 1], [0, 1]), ([2], [2]), ([3, 2], [3]), ([4], [4]), ([5, 4], [4, 5]), ([6, 4], [4, 6]), ([4], [4]), ([4], [4]), ([8, 9, 4, 4], [4, 8, 9]), ([10, 4], [4, 10]), ([7, 11, 4], [4, 7, 11]), ([4, 12], [4, 12]), ([13, 10], [13]), ([14], [14]), ([15, 14], [14, 15]), ([16, 14], [14, 16]), ([14], [14]), ([18, 14], [14, 18]), ([19, 14], [14, 19]), ([17, 20, 14], [14, 17, 20]), ([14, 21], [14, 21])])
def paroleref04_Collide.B1 : List Nat := [0, 0, 3, 7, 15, 31, 63, 127, 31, 31, 799, 1823, 4095, 8191, 16383, 32767, 65535, 131071, 32767, 294911, 819199, 2097151, 4194303]
theorem paroleref04_Collide.tab1 : rtab .any (opsOf Try.f41 1) = paroleref04_Collide.T1 := by kernel_rfl
theorem paroleref04_Collide.bits1 : waitsOk paroleref04_Collide.T1.2 paroleref04_Collide.B1 = true := by kernel_rfl
def paroleref04_Collide.T3 : Bool × List (List Nat × List Nat) := (true, [([], []), ([], []), ([], []), ([0, 1, 2], [0, 1, 2]), ([], []), ([], []), ([], []), ([4, 5, 6, 3], [4, 5, 6]), ([3, 7, 0, 1, 2, 3], [3]), ([7, 8, 0, 1, 2, 3, 4, 5, 6, 7, 8], [7])])
def paroleref04_Collide.B3 : List Nat := [0, 0, 0, 7, 0, 0, 0, 127, 255, 511]
theorem paroleref04_Collide.tab3 : rtab .any (opsOf Try.f41 3) = paroleref04_Collide.T3 := by kernel_rfl
theorem paroleref04_Collide.bits3 : waitsOk paroleref04_Collide.T3.2 paroleref04_Collide.B3 = true := by kernel_rfl
def paroleref04_Collide.T7 : Bool × List (List Nat × List Nat) := (true, [([], []), ([], []), ([0, 1], [0, 1]), ([2], [2]), ([], []), ([], []), ([4, 5], [4, 5]), ([6], [6]), ([3, 7], [3, 7]), ([8], [8]), ([9], [9]), ([9], [9]), ([10, 11, 9], [9, 10, 11]), ([12, 9], [9, 12]), ([13, 9], [9, 13]), ([9], [9]), ([9], [9]), ([15, 16, 9], [9, 15, 16]), ([17, 9], [9, 17]), ([18, 9], [9, 18]), ([14, 19, 9, 9], [9, 14, 19]), ([9], [9]), ([9], [9]), ([21, 22, 9], [9, 21, 22]), ([23, 9], [9, 23]), ([24, 9], [9, 24]), ([9], [9]), ([9], [9]), ([26, 27, 9], [9, 26, 27]), ([28, 9], [9, 28]), ([29, 9], [9, 29]), ([25, 30, 20, 9], [9, 25, 30]), ([20, 31, 9], [9, 20, 31]), ([9, 32], [9, 32])])
def paroleref04_Collide.B7 : List Nat := [0, 0, 3, 7, 0, 0, 48, 112, 255, 511, 1023, 1023, 4095, 8191, 16383, 1023, 1023, 99327, 230399, 492543, 1048575, 1023, 1023, 6292479, 14681087, 31458303, 1023, 1023, 201327615, 469763071, 1006633983, 2147483647, 4294967295, 8589934591]
theorem paroleref04_Collide.tab7 : rtab .any (opsOf Try.f41 7) = paroleref04_Collide.T7 := by kernel_rfl
theorem paroleref04_Collide.bits7 : waitsOk paroleref04_Collide.T7.2 paroleref04_Collide.B7 = true := by kernel_rfl
def paroleref04_Collide.T8 : Bool × List (List Nat × List Nat) := (true, [([], []), ([], []), ([0, 1], [0, 1]), ([2], [2]), ([], []), ([], []), ([4, 5], [4, 5]), ([6], [6]), ([3, 7], [3, 7]), ([8], [8]), ([9, 0, 1, 2, 3, 4, 5, 6, 7, 8, 9], [9])])
def paroleref04_Collide.B8 : List Nat := [0, 0, 3, 7, 0, 0, 48, 112, 255, 511, 1023]
theorem paroleref04_Collide.tab8 : rtab .any (opsOf Try.f41 8) = paroleref04_Collide.T8 := by kernel_rfl
theorem paroleref04_Collide.bits8 : waitsOk paroleref04_Collide.T8.2 paroleref04_Collide.B8 = true := by kernel_rfl
set_option maxHeartbeats 8000000 in
set_option maxRecDepth 100000 in
theorem paroleref04_Collide.calls (k : Nat) (a0 : Int) (a1 : Int) (a2_0 : Int) (A2_1 : Option Addr) (c2_1 : Nat) (l2_1 : List Int) (a3_0 : Int) (A3_1 : Option Addr) (c3_1 : Nat) (l3_1 : List Int) (r1 : Int) (r2 : Int) (r3 : Int) (r4 : Int) (r5 : Bool) (w : World) (hr2_1 : Kd.C (Kd.int .u64) w A2_1 l2_1.length l2_1) (hc2_1 : l2_1.length ≤ c2_1) (hr3_1 : Kd.C (Kd.int .u64) w A3_1 l3_1.length l3_1) (hc3_1 : l3_1.length ≤ c3_1) (h : paroleref04_Collide.f k a0 a1 a2_0 l2_1 a3_0 l3_1 = some (r1, r2, r3, r4, r5)) :
  Calls Try.prog 41 #[.int .i64 a0, .int .i64 a1, .agg #[.int .u64 a2_0, .slice A2_1 l2_1.length c2_1], .agg #[.int .u64 a3_0, .slice A3_1 l3_1.length c3_1]] w fun e w' => e = .returned (.agg #[.int .u64 r1, .int .u64 r2, .int .u64 r3, .int .u64 r4, .bool r5]) ∧ Below w.heap.size w w' := by
 have hu50 := Try.underlying50
 have hu64 := Try.underlying64
 have hu59 := Try.underlying59
 have hu60 := Try.underlying60
 have HR2_1 := Aside0.mk hr2_1
 have HC2_1 := Aside0.mk hc2_1
 clear hr2_1 hc2_1
 have HR3_1 := Aside0.mk hr3_1
 have HC3_1 := Aside0.mk hc3_1
 clear hr3_1 hc3_1
 have HB := Aside0.mk (Below.refl w.heap.size w)
 have H : ((paroleref04_Place.f a0 a1).bind fun t275 => (if t275 = 0 then ((paroleref04_Steps.f k a0 a1).bind fun t276 => (if (l2_1.length : Int) = (t276.length : Int) then (paroleref04_Collide.j0 k a0 a1 ((l3_1.length : Int) != (l2_1.length : Int)) a2_0 l2_1 a3_0 l3_1) else (paroleref04_Collide.j0 k a0 a1 true a2_0 l2_1 a3_0 l3_1))) else (paroleref04_Collide.j0 k a0 a1 true a2_0 l2_1 a3_0 l3_1))) = some (r1, r2, r3, r4, r5) := h
 clear h
 have HC5 := Aside0.mk H
 clear H
 go_enter Try.func41, Try.ntmps41
 go_upto_region 1 with (first | ((with_reducible refine gate_dst (N := 6) rfl ?_); (try (refine gate_guard (by rfl) ?_; dsimp only)); refine box_event ?hg (N := 6) ?hd (cs := #[.int .u64 a2_0, .slice A2_1 l2_1.length c2_1]) (t := 50) ?hr ?_; (case hd => rfl); (case hg => rfl); (case hr => first | (go_simp; done) | (go_simp; rfl)); intro gb272 hg w6 hbox hb; have n0_ := Aside0.mk (below_step (by repeat (first | (with_reducible first | exact HB.out | apply below_alloc | apply pw_below_drewN | apply below_drew1) | exact HB.out)) hb); have n1_ := Aside0.mk (hbox); have n2_ := Aside0.mk ((by rw [hg]; exact (below_size (by repeat (first | (with_reducible first | exact HB.out | apply below_alloc | apply pw_below_drewN | apply below_drew1) | exact HB.out))) : w.heap.size ≤ gb272)); have n3_ := Aside0.mk ((by rw [hg]; exact (below_size (by repeat (first | (with_reducible first | exact HB.out | apply below_alloc | apply pw_below_drewN | apply below_drew1) | exact HB.out))) : w.heap.size ≤ gb272)); clear HB; have HB := n0_; have BK272 := n1_; have GW272 := n2_; have GE272 := n3_; clear n0_ n1_ n2_ n3_; clear hb hbox hg) | ((with_reducible refine gate_dst (N := 7) rfl ?_); (try (refine gate_guard (by rfl) ?_; dsimp only)); refine box_event ?hg (N := 7) ?hd (cs := #[.int .u64 a3_0, .slice A3_1 l3_1.length c3_1]) (t := 50) ?hr ?_; (case hd => rfl); (case hg => rfl); (case hr => first | (go_simp; done) | (go_simp; rfl)); intro gb273 hg w7 hbox hb; have n0_ := Aside0.mk (blk_below (g := gb272) (o := .cells #[.int .u64 a2_0, .slice A2_1 l2_1.length c2_1] 50 (0, 0)) (by (with_reducible repeat (first | refine blk_drewN ?_ _ | refine blk_drew ?_ | refine blk_alloc ?_ _)); exact BK272.out) hb); have n1_ := Aside0.mk (below_step (by repeat (first | (with_reducible first | exact HB.out | apply below_alloc | apply pw_below_drewN | apply below_drew1 | refine below_set ?_ GE272.out) | exact HB.out)) hb); have n2_ := Aside0.mk (hbox); have n3_ := Aside0.mk ((by rw [hg]; exact (below_size (by repeat (first | (with_reducible first | exact HB.out | apply below_alloc | apply pw_below_drewN | apply below_drew1 | refine below_set ?_ GE272.out) | exact HB.out))) : w.heap.size ≤ gb273)); have n4_ := Aside0.mk ((by rw [hg]; exact (below_size (by repeat (first | (with_reducible first | exact HB.out | apply below_alloc | apply pw_below_drewN | apply below_drew1 | refine below_set ?_ GE272.out) | exact HB.out))) : w.heap.size ≤ gb273)); have n5_ := Aside0.mk ((by rw [hg]; exact Nat.ne_of_lt (blk_lt (g := gb272) (o := .cells #[.int .u64 a2_0, .slice A2_1 l2_1.length c2_1] 50 (0, 0)) (by (with_reducible repeat (first | refine blk_drewN ?_ _ | refine blk_drew ?_ | refine blk_alloc ?_ _)); exact BK272.out)) : gb272 ≠ gb273)); have n6_ := Aside0.mk ((by rw [hg]; exact Nat.ne_of_gt (blk_lt (g := gb272) (o := .cells #[.int .u64 a2_0, .slice A2_1 l2_1.length c2_1] 50 (0, 0)) (by (with_reducible repeat (first | refine blk_drewN ?_ _ | refine blk_drew ?_ | refine blk_alloc ?_ _)); exact BK272.out)) : gb273 ≠ gb272)); clear BK272; clear HB; have BK272 := n0_; have HB := n1_; have BK273 := n2_; have GW273 := n3_; have GE273 := n4_; have NB272_273 := n5_; have NB273_272 := n6_; clear n0_ n1_ n2_ n3_ n4_ n5_ n6_; clear hb hbox hg) | ((with_reducible refine gate_dst (N := 8) rfl ?_); (try (refine gate_guard (by rfl) ?_; dsimp only)); refine box_event ?hg (N := 8) ?hd (cs := #[.int .u64 0, .int .u64 0, .int .u64 0, .int .u64 0, .bool false]) (t := 64) ?hr ?_; (case hd => rfl); (case hg => rfl); (case hr => first | (go_simp; done) | (go_simp; rfl)); intro gb274 hg w8 hbox hb; have n0_ := Aside0.mk (blk_below (g := gb272) (o := .cells #[.int .u64 a2_0, .slice A2_1 l2_1.length c2_1] 50 (0, 0)) (by (with_reducible repeat (first | refine blk_drewN ?_ _ | refine blk_drew ?_ | refine blk_alloc ?_ _)); exact BK272.out) hb); have n1_ := Aside0.mk (blk_below (g := gb273) (o := .cells #[.int .u64 a3_0, .slice A3_1 l3_1.length c3_1] 50 (0, 0)) (by (with_reducible repeat (first | refine blk_drewN ?_ _ | refine blk_drew ?_ | refine blk_alloc ?_ _)); exact BK273.out) hb); have n2_ := Aside0.mk (below_step (by repeat (first | (with_reducible first | exact HB.out | apply below_alloc | apply pw_below_drewN | apply below_drew1 | refine below_set ?_ GE272.out | refine below_set ?_ GE273.out) | exact HB.out)) hb); have n3_ := Aside0.mk (hbox); have n4_ := Aside0.mk ((by rw [hg]; exact (below_size (by repeat (first | (with_reducible first | exact HB.out | apply below_alloc | apply pw_below_drewN | apply below_drew1 | refine below_set ?_ GE272.out | refine below_set ?_ GE273.out) | exact HB.out))) : w.heap.size ≤ gb274)); have n5_ := Aside0.mk ((by rw [hg]; exact (below_size (by repeat (first | (with_reducible first | exact HB.out | apply below_alloc | apply pw_below_drewN | apply below_drew1 | refine below_set ?_ GE272.out | refine below_set ?_ GE273.out) | exact HB.out))) : w.heap.size ≤ gb274)); have n6_ := Aside0.mk ((by rw [hg]; exact Nat.ne_of_lt (blk_lt (g := gb272) (o := .cells #[.int .u64 a2_0, .slice A2_1 l2_1.length c2_1] 50 (0, 0)) (by (with_reducible repeat (first | refine blk_drewN ?_ _ | refine blk_drew ?_ | refine blk_alloc ?_ _)); exact BK272.out)) : gb272 ≠ gb274)); have n7_ := Aside0.mk ((by rw [hg]; exact Nat.ne_of_gt (blk_lt (g := gb272) (o := .cells #[.int .u64 a2_0, .slice A2_1 l2_1.length c2_1] 50 (0, 0)) (by (with_reducible repeat (first | refine blk_drewN ?_ _ | refine blk_drew ?_ | refine blk_alloc ?_ _)); exact BK272.out)) : gb274 ≠ gb272)); have n8_ := Aside0.mk ((by rw [hg]; exact Nat.ne_of_lt (blk_lt (g := gb273) (o := .cells #[.int .u64 a3_0, .slice A3_1 l3_1.length c3_1] 50 (0, 0)) (by (with_reducible repeat (first | refine blk_drewN ?_ _ | refine blk_drew ?_ | refine blk_alloc ?_ _)); exact BK273.out)) : gb273 ≠ gb274)); have n9_ := Aside0.mk ((by rw [hg]; exact Nat.ne_of_gt (blk_lt (g := gb273) (o := .cells #[.int .u64 a3_0, .slice A3_1 l3_1.length c3_1] 50 (0, 0)) (by (with_reducible repeat (first | refine blk_drewN ?_ _ | refine blk_drew ?_ | refine blk_alloc ?_ _)); exact BK273.out)) : gb274 ≠ gb273)); clear BK272; clear BK273; clear HB; have BK272 := n0_; have BK273 := n1_; have HB := n2_; have BK274 := n3_; have GW274 := n4_; have GE274 := n5_; have NB272_274 := n6_; have NB274_272 := n7_; have NB273_274 := n8_; have NB274_273 := n9_; clear n0_ n1_ n2_ n3_ n4_ n5_ n6_ n7_ n8_ n9_; clear hb hbox hg))
 (try simp only [Act.put, setIfInBounds_toArray, set_cons_zero, set_cons_succ])
 go_cut [34] (fun v34 wc => ∃ (kq : Nat) (x34_4 : Bool), v34 = .bool x34_4 ∧ Aside0 (paroleref04_Collide.j0 kq a0 a1 x34_4 a2_0 l2_1 a3_0 l3_1 = some (r1, r2, r3, r4, r5)) ∧ Aside0 (kq ≤ k) ∧ Aside0 (wc.heap[gb272]? = some (.cells #[.int .u64 a2_0, (.slice A2_1 l2_1.length c2_1)] 50 (0, 0))) ∧ Aside0 (wc.heap[gb273]? = some (.cells #[.int .u64 a3_0, (.slice A3_1 l3_1.length c3_1)] 50 (0, 0))) ∧ Aside0 (wc.heap[gb274]? = some (.cells #[.int .u64 0, .int .u64 0, .int .u64 0, .int .u64 0, .bool false] 64 (0, 0))) ∧ Aside0 (Below w.heap.size w wc))
 case first =>
  have H := HC5.out
  clear HC5
  replace H := Option.bind_eq_some_iff.mp H
  obtain ⟨t275, A90, H⟩ := H
  replace H : (if t275 = 0 then ((paroleref04_Steps.f k a0 a1).bind fun t276 => (if (l2_1.length : Int) = (t276.length : Int) then (paroleref04_Collide.j0 k a0 a1 ((l3_1.length : Int) != (l2_1.length : Int)) a2_0 l2_1 a3_0 l3_1) else (paroleref04_Collide.j0 k a0 a1 true a2_0 l2_1 a3_0 l3_1))) else (paroleref04_Collide.j0 k a0 a1 true a2_0 l2_1 a3_0 l3_1)) = some (r1, r2, r3, r4, r5) := H
  have A9 := Aside0.mk A90
  clear A90
  by_cases c10 : t275 = 0
  ·
   rw [if_pos c10] at H
   have c10b0 : (t275 == 0) = true := beq_iff_eq.mpr c10
   have c10b1 : (t275 != 0) = false := bne_eq_false_iff_eq.mpr c10
   clear c10
   (first | rw [c10b0] | (simp only [i64_w, i32_w]; rw [c10b0]) | skip)
   replace H := Option.bind_eq_some_iff.mp H
   obtain ⟨t276, A110, H⟩ := H
   replace H : (if (l2_1.length : Int) = (t276.length : Int) then (paroleref04_Collide.j0 k a0 a1 ((l3_1.length : Int) != (l2_1.length : Int)) a2_0 l2_1 a3_0 l3_1) else (paroleref04_Collide.j0 k a0 a1 true a2_0 l2_1 a3_0 l3_1)) = some (r1, r2, r3, r4, r5) := H
   have A11 := Aside0.mk A110
   clear A110
   by_cases c12 : (l2_1.length : Int) = (t276.length : Int)
   ·
    rw [if_pos c12] at H
    have c12b0 : ((l2_1.length : Int) == (t276.length : Int)) = true := beq_iff_eq.mpr c12
    have c12b1 : ((l2_1.length : Int) != (t276.length : Int)) = false := bne_eq_false_iff_eq.mpr c12
    have c12b2 : (l2_1.length == t276.length) = true := by first | simpa using c12 | (simp at c12 ⊢; omega)
    clear c12
    have H' := Aside0.mk H
    clear H
    try go_wp2
    have n0_ := Aside0.mk (blk_drew BK272.out)
    have n1_ := Aside0.mk (blk_drew BK273.out)
    have n2_ := Aside0.mk (blk_drew BK274.out)
    have n3_ := Aside0.mk (below_drew1 HB.out)
    clear BK272
    clear BK273
    clear BK274
    clear HB
    have BK272 := n0_
    have BK273 := n1_
    have BK274 := n2_
    have HB := n3_
    clear n0_ n1_ n2_ n3_
    refine start_ (n := 23) (S := fun w' => w'.cell? ⟨gb272, 0, none⟩ = some (.int .u64 a2_0) ∧ w'.cell? ⟨gb272, 1, none⟩ = some (.slice A2_1 l2_1.length c2_1) ∧ w'.cell? ⟨gb273, 0, none⟩ = some (.int .u64 a3_0) ∧ w'.cell? ⟨gb273, 1, none⟩ = some (.slice A3_1 l3_1.length c3_1)) (ds := []) #[false, false, false, false, false, false, false, false, false, false, false, false, false, false, false, false, false, false, false, false, false, false, false] (by kernel_rfl) rfl rfl ⟨(blk_cell BK272.out 0).trans rfl, (blk_cell BK272.out 1).trans rfl, (blk_cell BK273.out 0).trans rfl, (blk_cell BK273.out 1).trans rfl⟩ (fun hHeld => ?_); refine with_tabW paroleref04_Collide.tab1 paroleref04_Collide.bits1 (fun HT_ HW_ => ?_)
    generalize w8.drew = w13 at BK272 BK273 BK274 HB hHeld ⊢
    refine pure_ (i := 0) (N := some 12) (v := ?_) (a' := ?_) (bl_41 23 1) rfl rfl (any_of HT_.out (by kernel_rfl)) (fun _ _ _ h => h) (Or.inl ⟨by rfl, ?_⟩) ?_ ?_; rotate_left; (· intro w'; go_simp; with_reducible rfl); rotate_left; (· simp only [Act.put, setIfInBounds_toArray, set_cons_zero, set_cons_succ, i64_w, i32_w]; rfl)
    refine pure_ (i := 1) (N := some 13) (v := ?_) (a' := ?_) (bl_41 23 3) rfl rfl (any_of HT_.out (by kernel_rfl)) (fun _ _ _ h => h) (Or.inl ⟨by rfl, ?_⟩) ?_ ?_; rotate_left; (· intro w'; go_simp; with_reducible rfl); rotate_left; (· simp only [Act.put, setIfInBounds_toArray, set_cons_zero, set_cons_succ, i64_w, i32_w]; rfl)
    refine one_ (i := 2) (N := some 14) (bl_41 23 7) rfl rfl (one_of HT_.out (by kernel_rfl)) (by decide) (fun K hK => ?_)
    refine goes_ Try.func51 (by kernel_rfl) rfl #[.int .i64 a0, .int .i64 a1] (by rfl) rfl rfl (by (try simp only [map_toArray, map_cons, map_nil]); first | done | rfl) ?_
    with_reducible refine (paroleref04_Place.calls a0 a1 t275 _ A9.out).mono ?_
    rintro e w' ⟨rfl, ⟨nd, rfl⟩⟩
    refine ⟨_, rfl, ?_⟩
    refine hK.out _ _ ⟨(blk_cell BK272.out 0).trans rfl, (blk_cell BK272.out 1).trans rfl, (blk_cell BK273.out 0).trans rfl, (blk_cell BK273.out 1).trans rfl⟩ (fun hHeld => ?_)
    clear hK K
    refine norm_ (a' := ?_) ?_ ?_
    rotate_left
    ·
     show Act.put _ (some 14) _ = _
     simp only [Act.put, setIfInBounds_toArray, set_cons_zero, set_cons_succ, i64_w, i32_w]
     rfl
    refine pure_ (i := 3) (N := some 15) (v := ?_) (a' := ?_) (bl_41 23 15) rfl rfl (any_of HT_.out (by kernel_rfl)) (fun _ _ _ h => h) (Or.inl ⟨by rfl, ?_⟩) ?_ ?_; rotate_left; (· intro w'; go_simp; with_reducible rfl); rotate_left; (· simp only [Act.put, setIfInBounds_toArray, set_cons_zero, set_cons_succ, i64_w, i32_w]; rfl)
    refine pure_ (i := 4) (N := some 16) (v := ?_) (a' := ?_) (bl_41 23 31) rfl rfl (any_of HT_.out (by kernel_rfl)) (fun _ _ _ h => h) (Or.inl ⟨by rfl, ?_⟩) ?_ ?_; rotate_left; (· intro w'; go_simp; with_reducible rfl); rotate_left; (· simp only [Act.put, setIfInBounds_toArray, set_cons_zero, set_cons_succ, i64_w, i32_w]; rfl)
    refine pure_ (i := 5) (N := some 17) (v := ?_) (a' := ?_) (bl_41 23 63) rfl rfl (any_of HT_.out (by kernel_rfl)) (fun _ _ _ h => h) (Or.inl ⟨by rfl, ?_⟩) ?_ ?_; rotate_left; (· intro w'; go_simp; with_reducible rfl); rotate_left; (· simp only [Act.put, setIfInBounds_toArray, set_cons_zero, set_cons_succ, i64_w, i32_w]; rfl)
    refine pure_ (i := 8) (N := some 20) (v := ?_) (a' := ?_) (bl_41 23 319) rfl rfl (any_of HT_.out (by kernel_rfl)) (fun _ _ _ h => h) (Or.inl ⟨by rfl, ?_⟩) ?_ ?_; rotate_left; (· intro w'; go_simp; with_reducible rfl); rotate_left; (· simp only [Act.put, setIfInBounds_toArray, set_cons_zero, set_cons_succ, i64_w, i32_w]; rfl)
    refine pure_ (i := 9) (N := some 21) (v := ?_) (a' := ?_) (bl_41 23 831) rfl rfl (any_of HT_.out (by kernel_rfl)) (fun _ _ _ h => h) (Or.inl ⟨by rfl, ?_⟩) ?_ ?_; rotate_left; (· intro w'; go_simp; with_reducible rfl); rotate_left; (· simp only [Act.put, setIfInBounds_toArray, set_cons_zero, set_cons_succ, i64_w, i32_w]; rfl)
    refine take_ (i := 6) (N := some 18) (v := ?_) (a' := ?_) (bl_41 23 895) rfl rfl (take_ofW HT_.out HW_.out (by kernel_rfl)) (fun _ _ _ h => h) (Or.inl ⟨by rfl, ?_⟩) hHeld ?_ ?_; rotate_left; (· rintro w' ⟨s0, s1, s2, s3⟩; go_simp; with_reducible rfl); rotate_left; (· simp only [Act.put, setIfInBounds_toArray, set_cons_zero, set_cons_succ, i64_w, i32_w]; rfl)
    refine pure_ (i := 7) (N := some 19) (v := ?_) (a' := ?_) (bl_41 23 1023) rfl rfl (any_of HT_.out (by kernel_rfl)) (fun _ _ _ h => h) (Or.inl ⟨by rfl, ?_⟩) ?_ ?_; rotate_left; (· intro w'; go_simp; with_reducible rfl); rotate_left; (· simp only [Act.put, setIfInBounds_toArray, set_cons_zero, set_cons_succ, i64_w, i32_w]; rfl)
    refine one_ (i := 10) (N := some 22) (bl_41 23 2047) rfl rfl (one_of HT_.out (by kernel_rfl)) (by decide) (fun K hK => ?_)
    refine goes_ Try.func52 (by kernel_rfl) rfl #[.int .i64 a0, .int .i64 a1] (by rfl) rfl rfl (by (try simp only [map_toArray, map_cons, map_nil]); first | done | rfl) ?_
    with_reducible refine (paroleref04_Steps.calls k a0 a1 t276 _ A11.out).mono ?_
    rintro e w14 ⟨v277, rfl, ho0, hb⟩
    refine ⟨_, rfl, ?_⟩
    have n0_ := Aside0.mk (Kd.R_lower ho0 (below_size (by repeat (first | (with_reducible first | exact HB.out | apply below_alloc | apply pw_below_drewN | apply below_drew1 | refine below_set ?_ GE272.out | refine below_set ?_ GE273.out | refine below_set ?_ GE274.out) | exact HB.out))))
    have n1_ := Aside0.mk (blk_below (g := gb272) (o := .cells #[.int .u64 a2_0, .slice A2_1 l2_1.length c2_1] 50 (0, 0)) (by (with_reducible repeat (first | refine blk_drewN ?_ _ | refine blk_drew ?_ | refine blk_alloc ?_ _)); exact BK272.out) hb)
    have n2_ := Aside0.mk (blk_below (g := gb273) (o := .cells #[.int .u64 a3_0, .slice A3_1 l3_1.length c3_1] 50 (0, 0)) (by (with_reducible repeat (first | refine blk_drewN ?_ _ | refine blk_drew ?_ | refine blk_alloc ?_ _)); exact BK273.out) hb)
    have n3_ := Aside0.mk (blk_below (g := gb274) (o := .cells #[.int .u64 0, .int .u64 0, .int .u64 0, .int .u64 0, .bool false] 64 (0, 0)) (by (with_reducible repeat (first | refine blk_drewN ?_ _ | refine blk_drew ?_ | refine blk_alloc ?_ _)); exact BK274.out) hb)
    have n4_ := Aside0.mk (below_step (by repeat (first | (with_reducible first | exact HB.out | apply below_alloc | apply pw_below_drewN | apply below_drew1 | refine below_set ?_ GE272.out | refine below_set ?_ GE273.out | refine below_set ?_ GE274.out) | exact HB.out)) hb)
    clear BK272
    clear BK273
    clear BK274
    clear HB
    have HO278 := n0_
    have BK272 := n1_
    have BK273 := n2_
    have BK274 := n3_
    have HB := n4_
    clear n0_ n1_ n2_ n3_ n4_
    (try clear hb)
    (try clear hb2)
    (try clear hk)
    (try clear hi)
    (try clear ho0)
    obtain ⟨Ao15, co15, eo15⟩ := Kd.R_slice HO278.out
    (first | subst eo15 | (injection eo15 with f1_ f2_ f3_; have f4_ := f1_.symm; have f5_ := f3_.symm; clear f1_ f2_ f3_; subst f4_; subst f5_))
    refine hK.out _ _ ⟨(blk_cell BK272.out 0).trans rfl, (blk_cell BK272.out 1).trans rfl, (blk_cell BK273.out 0).trans rfl, (blk_cell BK273.out 1).trans rfl⟩ (fun hHeld => ?_)
    clear hK K
    refine norm_ (a' := ?_) ?_ ?_
    rotate_left
    ·
     show Act.put _ (some 22) _ = _
     simp only [Act.put, setIfInBounds_toArray, set_cons_zero, set_cons_succ, i64_w, i32_w]
     rfl
    refine pure_ (i := 11) (N := some 23) (v := ?_) (a' := ?_) (bl_41 23 4095) rfl rfl (any_of HT_.out (by kernel_rfl)) (fun _ _ _ h => h) (Or.inl ⟨by rfl, ?_⟩) ?_ ?_; rotate_left; (· intro w'; go_simp; with_reducible rfl); rotate_left; (· simp only [Act.put, setIfInBounds_toArray, set_cons_zero, set_cons_succ, i64_w, i32_w]; rfl)
    refine pure_ (i := 12) (N := some 24) (v := ?_) (a' := ?_) (bl_41 23 8191) rfl rfl (any_of HT_.out (by kernel_rfl)) (fun _ _ _ h => h) (Or.inl ⟨by rfl, ?_⟩) ?_ ?_; rotate_left; (· intro w'; go_simp; with_reducible rfl); rotate_left; (· simp only [Act.put, setIfInBounds_toArray, set_cons_zero, set_cons_succ, i64_w, i32_w]; rfl)
    refine pure_ (i := 13) (N := some 25) (v := ?_) (a' := ?_) (bl_41 23 16383) rfl rfl (any_of HT_.out (by kernel_rfl)) (fun _ _ _ h => h) (Or.inl ⟨by rfl, ?_⟩) ?_ ?_; rotate_left; (· intro w'; go_simp; with_reducible rfl); rotate_left; (· simp only [Act.put, setIfInBounds_toArray, set_cons_zero, set_cons_succ, i64_w, i32_w]; rfl)
    refine pure_ (i := 14) (N := some 26) (v := ?_) (a' := ?_) (bl_41 23 32767) rfl rfl (any_of HT_.out (by kernel_rfl)) (fun _ _ _ h => h) (Or.inl ⟨by rfl, ?_⟩) ?_ ?_; rotate_left; (· intro w'; go_simp; with_reducible rfl); rotate_left; (· simp only [Act.put, setIfInBounds_toArray, set_cons_zero, set_cons_succ, i64_w, i32_w]; rfl)
    refine pure_ (i := 15) (N := some 27) (v := ?_) (a' := ?_) (bl_41 23 65535) rfl rfl (any_of HT_.out (by kernel_rfl)) (fun _ _ _ h => h) (Or.inl ⟨by rfl, ?_⟩) ?_ ?_; rotate_left; (· intro w'; go_simp; with_reducible rfl); rotate_left; (· simp only [Act.put, setIfInBounds_toArray, set_cons_zero, set_cons_succ, i64_w, i32_w]; rfl)
    refine pure_ (i := 18) (N := some 30) (v := ?_) (a' := ?_) (bl_41 23 327679) rfl rfl (any_of HT_.out (by kernel_rfl)) (fun _ _ _ h => h) (Or.inl ⟨by rfl, ?_⟩) ?_ ?_; rotate_left; (· intro w'; go_simp; with_reducible rfl); rotate_left; (· simp only [Act.put, setIfInBounds_toArray, set_cons_zero, set_cons_succ, i64_w, i32_w]; rfl)
    refine take_ (i := 16) (N := some 28) (v := ?_) (a' := ?_) (bl_41 23 393215) rfl rfl (take_ofW HT_.out HW_.out (by kernel_rfl)) (fun _ _ _ h => h) (Or.inl ⟨by rfl, ?_⟩) hHeld ?_ ?_; rotate_left; (· rintro w' ⟨s0, s1, s2, s3⟩; go_simp; with_reducible rfl); rotate_left; (· simp only [Act.put, setIfInBounds_toArray, set_cons_zero, set_cons_succ, i64_w, i32_w]; rfl)
    refine pure_ (i := 17) (N := some 29) (v := ?_) (a' := ?_) (bl_41 23 524287) rfl rfl (any_of HT_.out (by kernel_rfl)) (fun _ _ _ h => h) (Or.inl ⟨by rfl, ?_⟩) ?_ ?_; rotate_left; (· intro w'; go_simp; with_reducible rfl); rotate_left; (· simp only [Act.put, setIfInBounds_toArray, set_cons_zero, set_cons_succ, i64_w, i32_w]; rfl)
    refine take_ (i := 19) (N := some 31) (v := ?_) (a' := ?_) (bl_41 23 1048575) rfl rfl (take_ofW HT_.out HW_.out (by kernel_rfl)) (fun _ _ _ h => h) (Or.inl ⟨by rfl, ?_⟩) hHeld ?_ ?_; rotate_left; (· rintro w' ⟨s0, s1, s2, s3⟩; go_simp; with_reducible rfl); rotate_left; (· simp only [Act.put, setIfInBounds_toArray, set_cons_zero, set_cons_succ, i64_w, i32_w]; rfl)
    refine pure_ (i := 20) (N := some 32) (v := ?_) (a' := ?_) (bl_41 23 2097151) rfl rfl (any_of HT_.out (by kernel_rfl)) (fun _ _ _ h => h) (Or.inl ⟨by rfl, ?_⟩) ?_ ?_; rotate_left; (· intro w'; go_simp; with_reducible rfl); rotate_left; (· simp only [Act.put, setIfInBounds_toArray, set_cons_zero, set_cons_succ, i64_w, i32_w]; rfl)
    refine pure_ (i := 21) (N := some 33) (v := ?_) (a' := ?_) (bl_41 23 4194303) rfl rfl (any_of HT_.out (by kernel_rfl)) (fun _ _ _ h => h) (Or.inl ⟨by rfl, ?_⟩) ?_ ?_; rotate_left; (· intro w'; go_simp; with_reducible rfl); rotate_left; (· simp only [Act.put, setIfInBounds_toArray, set_cons_zero, set_cons_succ, i64_w, i32_w]; rfl)
    refine pure_ (i := 22) (N := some 34) (v := ?_) (a' := ?_) (bl_41 23 8388607) rfl rfl (any_of HT_.out (by kernel_rfl)) (fun _ _ _ h => h) (Or.inl ⟨by rfl, ?_⟩) ?_ ?_; rotate_left; (· intro w'; go_simp; with_reducible rfl); rotate_left; (· simp only [Act.put, setIfInBounds_toArray, set_cons_zero, set_cons_succ, i64_w, i32_w]; rfl)
    refine done_ (done_of HT_.out (by kernel_rfl)) ?_
    try go_wp2
    go_meet
    case rel => exact ⟨_, (((l3_1.length : Int) != (l2_1.length : Int))), (by first | rfl | (simp; done) | (simp [*]; done)), H', ⟨by first | omega | exact Nat.le_refl _⟩, ⟨by (with_reducible repeat (first | refine blk_drewN ?_ _ | refine blk_drew ?_ | refine blk_alloc ?_ _)); exact BK272.out⟩, ⟨by (with_reducible repeat (first | refine blk_drewN ?_ _ | refine blk_drew ?_ | refine blk_alloc ?_ _)); exact BK273.out⟩, ⟨by (with_reducible repeat (first | refine blk_drewN ?_ _ | refine blk_drew ?_ | refine blk_alloc ?_ _)); exact BK274.out⟩, ⟨by repeat (first | (with_reducible first | exact HB.out | apply below_alloc | apply pw_below_drewN | apply below_drew1 | refine below_set ?_ GE272.out | refine below_set ?_ GE273.out | refine below_set ?_ GE274.out) | exact HB.out)⟩⟩
   ·
    rw [if_neg c12] at H
    have c12b0 : ((l2_1.length : Int) == (t276.length : Int)) = false := beq_eq_false_iff_ne.mpr c12
    have c12b1 : ((l2_1.length : Int) != (t276.length : Int)) = true := bne_iff_ne.mpr c12
    have c12b2 : (l2_1.length == t276.length) = false := by first | simpa using c12 | (simp at c12 ⊢; omega)
    have H' := Aside0.mk H
    clear H
    try go_wp2
    have n0_ := Aside0.mk (blk_drew BK272.out)
    have n1_ := Aside0.mk (blk_drew BK273.out)
    have n2_ := Aside0.mk (blk_drew BK274.out)
    have n3_ := Aside0.mk (below_drew1 HB.out)
    clear BK272
    clear BK273
    clear BK274
    clear HB
    have BK272 := n0_
    have BK273 := n1_
    have BK274 := n2_
    have HB := n3_
    clear n0_ n1_ n2_ n3_
    refine start_ (n := 23) (S := fun w' => w'.cell? ⟨gb272, 0, none⟩ = some (.int .u64 a2_0) ∧ w'.cell? ⟨gb272, 1, none⟩ = some (.slice A2_1 l2_1.length c2_1)) (ds := []) #[false, false, false, false, false, false, false, false, false, false, false, false, false, false, false, false, false, false, false, false, false, false, false] (by kernel_rfl) rfl rfl ⟨(blk_cell BK272.out 0).trans rfl, (blk_cell BK272.out 1).trans rfl⟩ (fun hHeld => ?_); refine with_tabW paroleref04_Collide.tab1 paroleref04_Collide.bits1 (fun HT_ HW_ => ?_)
    generalize w8.drew = w16 at BK272 BK273 BK274 HB hHeld ⊢
    refine pure_ (i := 0) (N := some 12) (v := ?_) (a' := ?_) (bl_41 23 1) rfl rfl (any_of HT_.out (by kernel_rfl)) (fun _ _ _ h => h) (Or.inl ⟨by rfl, ?_⟩) ?_ ?_; rotate_left; (· intro w'; go_simp; with_reducible rfl); rotate_left; (· simp only [Act.put, setIfInBounds_toArray, set_cons_zero, set_cons_succ, i64_w, i32_w]; rfl)
    refine pure_ (i := 1) (N := some 13) (v := ?_) (a' := ?_) (bl_41 23 3) rfl rfl (any_of HT_.out (by kernel_rfl)) (fun _ _ _ h => h) (Or.inl ⟨by rfl, ?_⟩) ?_ ?_; rotate_left; (· intro w'; go_simp; with_reducible rfl); rotate_left; (· simp only [Act.put, setIfInBounds_toArray, set_cons_zero, set_cons_succ, i64_w, i32_w]; rfl)
    refine one_ (i := 2) (N := some 14) (bl_41 23 7) rfl rfl (one_of HT_.out (by kernel_rfl)) (by decide) (fun K hK => ?_)
    refine goes_ Try.func51 (by kernel_rfl) rfl #[.int .i64 a0, .int .i64 a1] (by rfl) rfl rfl (by (try simp only [map_toArray, map_cons, map_nil]); first | done | rfl) ?_
    with_reducible refine (paroleref04_Place.calls a0 a1 t275 _ A9.out).mono ?_
    rintro e w' ⟨rfl, ⟨nd, rfl⟩⟩
    refine ⟨_, rfl, ?_⟩
    refine hK.out _ _ ⟨(blk_cell BK272.out 0).trans rfl, (blk_cell BK272.out 1).trans rfl⟩ (fun hHeld => ?_)
    clear hK K
    refine norm_ (a' := ?_) ?_ ?_
    rotate_left
    ·
     show Act.put _ (some 14) _ = _
     simp only [Act.put, setIfInBounds_toArray, set_cons_zero, set_cons_succ, i64_w, i32_w]
     rfl
    refine pure_ (i := 3) (N := some 15) (v := ?_) (a' := ?_) (bl_41 23 15) rfl rfl (any_of HT_.out (by kernel_rfl)) (fun _ _ _ h => h) (Or.inl ⟨by rfl, ?_⟩) ?_ ?_; rotate_left; (· intro w'; go_simp; with_reducible rfl); rotate_left; (· simp only [Act.put, setIfInBounds_toArray, set_cons_zero, set_cons_succ, i64_w, i32_w]; rfl)
    refine pure_ (i := 4) (N := some 16) (v := ?_) (a' := ?_) (bl_41 23 31) rfl rfl (any_of HT_.out (by kernel_rfl)) (fun _ _ _ h => h) (Or.inl ⟨by rfl, ?_⟩) ?_ ?_; rotate_left; (· intro w'; go_simp; with_reducible rfl); rotate_left; (· simp only [Act.put, setIfInBounds_toArray, set_cons_zero, set_cons_succ, i64_w, i32_w]; rfl)
    refine pure_ (i := 5) (N := some 17) (v := ?_) (a' := ?_) (bl_41 23 63) rfl rfl (any_of HT_.out (by kernel_rfl)) (fun _ _ _ h => h) (Or.inl ⟨by rfl, ?_⟩) ?_ ?_; rotate_left; (· intro w'; go_simp; with_reducible rfl); rotate_left; (· simp only [Act.put, setIfInBounds_toArray, set_cons_zero, set_cons_succ, i64_w, i32_w]; rfl)
    refine pure_ (i := 8) (N := some 20) (v := ?_) (a' := ?_) (bl_41 23 319) rfl rfl (any_of HT_.out (by kernel_rfl)) (fun _ _ _ h => h) (Or.inl ⟨by rfl, ?_⟩) ?_ ?_; rotate_left; (· intro w'; go_simp; with_reducible rfl); rotate_left; (· simp only [Act.put, setIfInBounds_toArray, set_cons_zero, set_cons_succ, i64_w, i32_w]; rfl)
    refine pure_ (i := 9) (N := some 21) (v := ?_) (a' := ?_) (bl_41 23 831) rfl rfl (any_of HT_.out (by kernel_rfl)) (fun _ _ _ h => h) (Or.inl ⟨by rfl, ?_⟩) ?_ ?_; rotate_left; (· intro w'; go_simp; with_reducible rfl); rotate_left; (· simp only [Act.put, setIfInBounds_toArray, set_cons_zero, set_cons_succ, i64_w, i32_w]; rfl)
    refine take_ (i := 6) (N := some 18) (v := ?_) (a' := ?_) (bl_41 23 895) rfl rfl (take_ofW HT_.out HW_.out (by kernel_rfl)) (fun _ _ _ h => h) (Or.inl ⟨by rfl, ?_⟩) hHeld ?_ ?_; rotate_left; (· rintro w' ⟨s0, s1⟩; go_simp; with_reducible rfl); rotate_left; (· simp only [Act.put, setIfInBounds_toArray, set_cons_zero, set_cons_succ, i64_w, i32_w]; rfl)
    refine pure_ (i := 7) (N := some 19) (v := ?_) (a' := ?_) (bl_41 23 1023) rfl rfl (any_of HT_.out (by kernel_rfl)) (fun _ _ _ h => h) (Or.inl ⟨by rfl, ?_⟩) ?_ ?_; rotate_left; (· intro w'; go_simp; with_reducible rfl); rotate_left; (· simp only [Act.put, setIfInBounds_toArray, set_cons_zero, set_cons_succ, i64_w, i32_w]; rfl)
    refine one_ (i := 10) (N := some 22) (bl_41 23 2047) rfl rfl (one_of HT_.out (by kernel_rfl)) (by decide) (fun K hK => ?_)
    refine goes_ Try.func52 (by kernel_rfl) rfl #[.int .i64 a0, .int .i64 a1] (by rfl) rfl rfl (by (try simp only [map_toArray, map_cons, map_nil]); first | done | rfl) ?_
    with_reducible refine (paroleref04_Steps.calls k a0 a1 t276 _ A11.out).mono ?_
    rintro e w17 ⟨v277, rfl, ho0, hb⟩
    refine ⟨_, rfl, ?_⟩
    have n0_ := Aside0.mk (Kd.R_lower ho0 (below_size (by repeat (first | (with_reducible first | exact HB.out | apply below_alloc | apply pw_below_drewN | apply below_drew1 | refine below_set ?_ GE272.out | refine below_set ?_ GE273.out | refine below_set ?_ GE274.out) | exact HB.out))))
    have n1_ := Aside0.mk (blk_below (g := gb272) (o := .cells #[.int .u64 a2_0, .slice A2_1 l2_1.length c2_1] 50 (0, 0)) (by (with_reducible repeat (first | refine blk_drewN ?_ _ | refine blk_drew ?_ | refine blk_alloc ?_ _)); exact BK272.out) hb)
    have n2_ := Aside0.mk (blk_below (g := gb273) (o := .cells #[.int .u64 a3_0, .slice A3_1 l3_1.length c3_1] 50 (0, 0)) (by (with_reducible repeat (first | refine blk_drewN ?_ _ | refine blk_drew ?_ | refine blk_alloc ?_ _)); exact BK273.out) hb)
    have n3_ := Aside0.mk (blk_below (g := gb274) (o := .cells #[.int .u64 0, .int .u64 0, .int .u64 0, .int .u64 0, .bool false] 64 (0, 0)) (by (with_reducible repeat (first | refine blk_drewN ?_ _ | refine blk_drew ?_ | refine blk_alloc ?_ _)); exact BK274.out) hb)
    have n4_ := Aside0.mk (below_step (by repeat (first | (with_reducible first | exact HB.out | apply below_alloc | apply pw_below_drewN | apply below_drew1 | refine below_set ?_ GE272.out | refine below_set ?_ GE273.out | refine below_set ?_ GE274.out) | exact HB.out)) hb)
    clear BK272
    clear BK273
    clear BK274
    clear HB
    have HO278 := n0_
    have BK272 := n1_
    have BK273 := n2_
    have BK274 := n3_
    have HB := n4_
    clear n0_ n1_ n2_ n3_ n4_
    (try clear hb)
    (try clear hb2)
    (try clear hk)
    (try clear hi)
    (try clear ho0)
    obtain ⟨Ao18, co18, eo18⟩ := Kd.R_slice HO278.out
    (first | subst eo18 | (injection eo18 with f1_ f2_ f3_; have f4_ := f1_.symm; have f5_ := f3_.symm; clear f1_ f2_ f3_; subst f4_; subst f5_))
    refine hK.out _ _ ⟨(blk_cell BK272.out 0).trans rfl, (blk_cell BK272.out 1).trans rfl⟩ (fun hHeld => ?_)
    clear hK K
    refine norm_ (a' := ?_) ?_ ?_
    rotate_left
    ·
     show Act.put _ (some 22) _ = _
     simp only [Act.put, setIfInBounds_toArray, set_cons_zero, set_cons_succ, i64_w, i32_w]
     rfl
    refine pure_ (i := 11) (N := some 23) (v := ?_) (a' := ?_) (bl_41 23 4095) rfl rfl (any_of HT_.out (by kernel_rfl)) (fun _ _ _ h => h) (Or.inl ⟨by rfl, ?_⟩) ?_ ?_; rotate_left; (· intro w'; go_simp; with_reducible rfl); rotate_left; (· simp only [Act.put, setIfInBounds_toArray, set_cons_zero, set_cons_succ, i64_w, i32_w]; rfl)
    refine pure_ (i := 12) (N := some 24) (v := ?_) (a' := ?_) (bl_41 23 8191) rfl rfl (any_of HT_.out (by kernel_rfl)) (fun _ _ _ h => h) (Or.inl ⟨by rfl, ?_⟩) ?_ ?_; rotate_left; (· intro w'; go_simp; with_reducible rfl); rotate_left; (· simp only [Act.put, setIfInBounds_toArray, set_cons_zero, set_cons_succ, i64_w, i32_w]; rfl)
    refine pure_ (i := 13) (N := some 25) (v := ?_) (a' := ?_) (bl_41 23 16383) rfl rfl (any_of HT_.out (by kernel_rfl)) (fun _ _ _ h => h) (Or.inl ⟨by rfl, ?_⟩) ?_ ?_; rotate_left; (· intro w'; go_simp; with_reducible rfl); rotate_left; (· simp only [Act.put, setIfInBounds_toArray, set_cons_zero, set_cons_succ, i64_w, i32_w]; rfl)
    refine pure_ (i := 14) (N := some 26) (v := ?_) (a' := ?_) (bl_41 23 32767) rfl rfl (any_of HT_.out (by kernel_rfl)) (fun _ _ _ h => h) (Or.inl ⟨by rfl, ?_⟩) ?_ ?_; rotate_left; (· intro w'; go_simp; with_reducible rfl); rotate_left; (· simp only [Act.put, setIfInBounds_toArray, set_cons_zero, set_cons_succ, i64_w, i32_w]; rfl)
    refine pure_ (i := 15) (N := some 27) (v := undef) (a' := ?_) (bl_41 23 65535) rfl rfl (any_of HT_.out (by kernel_rfl)) (fun _ _ _ h => h) (Or.inr ⟨by rfl, rfl⟩) ?_ ?_; rotate_left; (· simp only [Act.put, setIfInBounds_toArray, set_cons_zero, set_cons_succ, i64_w, i32_w]; rfl)
    refine pure_ (i := 16) (N := some 28) (v := undef) (a' := ?_) (bl_41 23 131071) rfl rfl (any_of HT_.out (by kernel_rfl)) (fun _ _ _ h => h) (Or.inr ⟨by rfl, rfl⟩) ?_ ?_; rotate_left; (· simp only [Act.put, setIfInBounds_toArray, set_cons_zero, set_cons_succ, i64_w, i32_w]; rfl)
    refine pure_ (i := 17) (N := some 29) (v := undef) (a' := ?_) (bl_41 23 262143) rfl rfl (any_of HT_.out (by kernel_rfl)) (fun _ _ _ h => h) (Or.inr ⟨by rfl, rfl⟩) ?_ ?_; rotate_left; (· simp only [Act.put, setIfInBounds_toArray, set_cons_zero, set_cons_succ, i64_w, i32_w]; rfl)
    refine pure_ (i := 18) (N := some 30) (v := undef) (a' := ?_) (bl_41 23 524287) rfl rfl (any_of HT_.out (by kernel_rfl)) (fun _ _ _ h => h) (Or.inr ⟨by rfl, rfl⟩) ?_ ?_; rotate_left; (· simp only [Act.put, setIfInBounds_toArray, set_cons_zero, set_cons_succ, i64_w, i32_w]; rfl)
    refine pure_ (i := 19) (N := some 31) (v := undef) (a' := ?_) (bl_41 23 1048575) rfl rfl (any_of HT_.out (by kernel_rfl)) (fun _ _ _ h => h) (Or.inr ⟨by rfl, rfl⟩) ?_ ?_; rotate_left; (· simp only [Act.put, setIfInBounds_toArray, set_cons_zero, set_cons_succ, i64_w, i32_w]; rfl)
    refine pure_ (i := 20) (N := some 32) (v := undef) (a' := ?_) (bl_41 23 2097151) rfl rfl (any_of HT_.out (by kernel_rfl)) (fun _ _ _ h => h) (Or.inr ⟨by rfl, rfl⟩) ?_ ?_; rotate_left; (· simp only [Act.put, setIfInBounds_toArray, set_cons_zero, set_cons_succ, i64_w, i32_w]; rfl)
    refine pure_ (i := 21) (N := some 33) (v := undef) (a' := ?_) (bl_41 23 4194303) rfl rfl (any_of HT_.out (by kernel_rfl)) (fun _ _ _ h => h) (Or.inr ⟨by rfl, rfl⟩) ?_ ?_; rotate_left; (· simp only [Act.put, setIfInBounds_toArray, set_cons_zero, set_cons_succ, i64_w, i32_w]; rfl)
    refine pure_ (i := 22) (N := some 34) (v := ?_) (a' := ?_) (bl_41 23 8388607) rfl rfl (any_of HT_.out (by kernel_rfl)) (fun _ _ _ h => h) (Or.inl ⟨by rfl, ?_⟩) ?_ ?_; rotate_left; (· intro w'; go_simp; with_reducible rfl); rotate_left; (· simp only [Act.put, setIfInBounds_toArray, set_cons_zero, set_cons_succ, i64_w, i32_w]; rfl)
    refine done_ (done_of HT_.out (by kernel_rfl)) ?_
    try go_wp2
    go_meet
    case rel => exact ⟨_, (true), (by first | rfl | (simp; done) | (simp [*]; done)), H', ⟨by first | omega | exact Nat.le_refl _⟩, ⟨by (with_reducible repeat (first | refine blk_drewN ?_ _ | refine blk_drew ?_ | refine blk_alloc ?_ _)); exact BK272.out⟩, ⟨by (with_reducible repeat (first | refine blk_drewN ?_ _ | refine blk_drew ?_ | refine blk_alloc ?_ _)); exact BK273.out⟩, ⟨by (with_reducible repeat (first | refine blk_drewN ?_ _ | refine blk_drew ?_ | refine blk_alloc ?_ _)); exact BK274.out⟩, ⟨by repeat (first | (with_reducible first | exact HB.out | apply below_alloc | apply pw_below_drewN | apply below_drew1 | refine below_set ?_ GE272.out | refine below_set ?_ GE273.out | refine below_set ?_ GE274.out) | exact HB.out)⟩⟩
  ·
   rw [if_neg c10] at H
   have c10b0 : (t275 == 0) = false := beq_eq_false_iff_ne.mpr c10
   have c10b1 : (t275 != 0) = true := bne_iff_ne.mpr c10
   (first | rw [c10b0] | (simp only [i64_w, i32_w]; rw [c10b0]) | skip)
   have H' := Aside0.mk H
   clear H
   try go_wp2
   have n0_ := Aside0.mk (blk_drew BK272.out)
   have n1_ := Aside0.mk (blk_drew BK273.out)
   have n2_ := Aside0.mk (blk_drew BK274.out)
   have n3_ := Aside0.mk (below_drew1 HB.out)
   clear BK272
   clear BK273
   clear BK274
   clear HB
   have BK272 := n0_
   have BK273 := n1_
   have BK274 := n2_
   have HB := n3_
   clear n0_ n1_ n2_ n3_
   refine start_ (n := 23) (S := fun w' => True) (ds := []) #[false, false, false, false, false, false, false, false, false, false, false, false, false, false, false, false, false, false, false, false, false, false, false] (by kernel_rfl) rfl rfl trivial (fun hHeld => ?_); refine with_tabW paroleref04_Collide.tab1 paroleref04_Collide.bits1 (fun HT_ HW_ => ?_)
   generalize w8.drew = w19 at BK272 BK273 BK274 HB hHeld ⊢
   refine pure_ (i := 0) (N := some 12) (v := ?_) (a' := ?_) (bl_41 23 1) rfl rfl (any_of HT_.out (by kernel_rfl)) (fun _ _ _ h => h) (Or.inl ⟨by rfl, ?_⟩) ?_ ?_; rotate_left; (· intro w'; go_simp; with_reducible rfl); rotate_left; (· simp only [Act.put, setIfInBounds_toArray, set_cons_zero, set_cons_succ, i64_w, i32_w]; rfl)
   refine pure_ (i := 1) (N := some 13) (v := ?_) (a' := ?_) (bl_41 23 3) rfl rfl (any_of HT_.out (by kernel_rfl)) (fun _ _ _ h => h) (Or.inl ⟨by rfl, ?_⟩) ?_ ?_; rotate_left; (· intro w'; go_simp; with_reducible rfl); rotate_left; (· simp only [Act.put, setIfInBounds_toArray, set_cons_zero, set_cons_succ, i64_w, i32_w]; rfl)
   refine one_ (i := 2) (N := some 14) (bl_41 23 7) rfl rfl (one_of HT_.out (by kernel_rfl)) (by decide) (fun K hK => ?_)
   refine goes_ Try.func51 (by kernel_rfl) rfl #[.int .i64 a0, .int .i64 a1] (by rfl) rfl rfl (by (try simp only [map_toArray, map_cons, map_nil]); first | done | rfl) ?_
   with_reducible refine (paroleref04_Place.calls a0 a1 t275 _ A9.out).mono ?_
   rintro e w' ⟨rfl, ⟨nd, rfl⟩⟩
   refine ⟨_, rfl, ?_⟩
   refine hK.out _ _ trivial (fun hHeld => ?_)
   clear hK K
   refine norm_ (a' := ?_) ?_ ?_
   rotate_left
   ·
    show Act.put _ (some 14) _ = _
    simp only [Act.put, setIfInBounds_toArray, set_cons_zero, set_cons_succ, i64_w, i32_w]
    rfl
   refine pure_ (i := 3) (N := some 15) (v := ?_) (a' := ?_) (bl_41 23 15) rfl rfl (any_of HT_.out (by kernel_rfl)) (fun _ _ _ h => h) (Or.inl ⟨by rfl, ?_⟩) ?_ ?_; rotate_left; (· intro w'; go_simp; with_reducible rfl); rotate_left; (· simp only [Act.put, setIfInBounds_toArray, set_cons_zero, set_cons_succ, i64_w, i32_w]; rfl)
   refine pure_ (i := 4) (N := some 16) (v := ?_) (a' := ?_) (bl_41 23 31) rfl rfl (any_of HT_.out (by kernel_rfl)) (fun _ _ _ h => h) (Or.inl ⟨by rfl, ?_⟩) ?_ ?_; rotate_left; (· intro w'; go_simp; with_reducible rfl); rotate_left; (· simp only [Act.put, setIfInBounds_toArray, set_cons_zero, set_cons_succ, i64_w, i32_w]; rfl)
   refine pure_ (i := 5) (N := some 17) (v := undef) (a' := ?_) (bl_41 23 63) rfl rfl (any_of HT_.out (by kernel_rfl)) (fun _ _ _ h => h) (Or.inr ⟨by rfl, rfl⟩) ?_ ?_; rotate_left; (· simp only [Act.put, setIfInBounds_toArray, set_cons_zero, set_cons_succ, i64_w, i32_w]; rfl)
   refine pure_ (i := 6) (N := some 18) (v := undef) (a' := ?_) (bl_41 23 127) rfl rfl (any_of HT_.out (by kernel_rfl)) (fun _ _ _ h => h) (Or.inr ⟨by rfl, rfl⟩) ?_ ?_; rotate_left; (· simp only [Act.put, setIfInBounds_toArray, set_cons_zero, set_cons_succ, i64_w, i32_w]; rfl)
   refine pure_ (i := 7) (N := some 19) (v := undef) (a' := ?_) (bl_41 23 255) rfl rfl (any_of HT_.out (by kernel_rfl)) (fun _ _ _ h => h) (Or.inr ⟨by rfl, rfl⟩) ?_ ?_; rotate_left; (· simp only [Act.put, setIfInBounds_toArray, set_cons_zero, set_cons_succ, i64_w, i32_w]; rfl)
   refine pure_ (i := 8) (N := some 20) (v := undef) (a' := ?_) (bl_41 23 511) rfl rfl (any_of HT_.out (by kernel_rfl)) (fun _ _ _ h => h) (Or.inr ⟨by rfl, rfl⟩) ?_ ?_; rotate_left; (· simp only [Act.put, setIfInBounds_toArray, set_cons_zero, set_cons_succ, i64_w, i32_w]; rfl)
   refine pure_ (i := 9) (N := some 21) (v := undef) (a' := ?_) (bl_41 23 1023) rfl rfl (any_of HT_.out (by kernel_rfl)) (fun _ _ _ h => h) (Or.inr ⟨by rfl, rfl⟩) ?_ ?_; rotate_left; (· simp only [Act.put, setIfInBounds_toArray, set_cons_zero, set_cons_succ, i64_w, i32_w]; rfl)
   refine pure_ (i := 10) (N := some 22) (v := undef) (a' := ?_) (bl_41 23 2047) rfl rfl (any_of HT_.out (by kernel_rfl)) (fun _ _ _ h => h) (Or.inr ⟨by rfl, rfl⟩) ?_ ?_; rotate_left; (· simp only [Act.put, setIfInBounds_toArray, set_cons_zero, set_cons_succ, i64_w, i32_w]; rfl)
   refine pure_ (i := 11) (N := some 23) (v := undef) (a' := ?_) (bl_41 23 4095) rfl rfl (any_of HT_.out (by kernel_rfl)) (fun _ _ _ h => h) (Or.inr ⟨by rfl, rfl⟩) ?_ ?_; rotate_left; (· simp only [Act.put, setIfInBounds_toArray, set_cons_zero, set_cons_succ, i64_w, i32_w]; rfl)
   refine pure_ (i := 12) (N := some 24) (v := undef) (a' := ?_) (bl_41 23 8191) rfl rfl (any_of HT_.out (by kernel_rfl)) (fun _ _ _ h => h) (Or.inr ⟨by rfl, rfl⟩) ?_ ?_; rotate_left; (· simp only [Act.put, setIfInBounds_toArray, set_cons_zero, set_cons_succ, i64_w, i32_w]; rfl)
   refine pure_ (i := 13) (N := some 25) (v := ?_) (a' := ?_) (bl_41 23 16383) rfl rfl (any_of HT_.out (by kernel_rfl)) (fun _ _ _ h => h) (Or.inl ⟨by rfl, ?_⟩) ?_ ?_; rotate_left; (· intro w'; go_simp; with_reducible rfl); rotate_left; (· simp only [Act.put, setIfInBounds_toArray, set_cons_zero, set_cons_succ, i64_w, i32_w]; rfl)
   refine pure_ (i := 14) (N := some 26) (v := ?_) (a' := ?_) (bl_41 23 32767) rfl rfl (any_of HT_.out (by kernel_rfl)) (fun _ _ _ h => h) (Or.inl ⟨by rfl, ?_⟩) ?_ ?_; rotate_left; (· intro w'; go_simp; with_reducible rfl); rotate_left; (· simp only [Act.put, setIfInBounds_toArray, set_cons_zero, set_cons_succ, i64_w, i32_w]; rfl)
   refine pure_ (i := 15) (N := some 27) (v := undef) (a' := ?_) (bl_41 23 65535) rfl rfl (any_of HT_.out (by kernel_rfl)) (fun _ _ _ h => h) (Or.inr ⟨by rfl, rfl⟩) ?_ ?_; rotate_left; (· simp only [Act.put, setIfInBounds_toArray, set_cons_zero, set_cons_succ, i64_w, i32_w]; rfl)
   refine pure_ (i := 16) (N := some 28) (v := undef) (a' := ?_) (bl_41 23 131071) rfl rfl (any_of HT_.out (by kernel_rfl)) (fun _ _ _ h => h) (Or.inr ⟨by rfl, rfl⟩) ?_ ?_; rotate_left; (· simp only [Act.put, setIfInBounds_toArray, set_cons_zero, set_cons_succ, i64_w, i32_w]; rfl)
   refine pure_ (i := 17) (N := some 29) (v := undef) (a' := ?_) (bl_41 23 262143) rfl rfl (any_of HT_.out (by kernel_rfl)) (fun _ _ _ h => h) (Or.inr ⟨by rfl, rfl⟩) ?_ ?_; rotate_left; (· simp only [Act.put, setIfInBounds_toArray, set_cons_zero, set_cons_succ, i64_w, i32_w]; rfl)
   refine pure_ (i := 18) (N := some 30) (v := undef) (a' := ?_) (bl_41 23 524287) rfl rfl (any_of HT_.out (by kernel_rfl)) (fun _ _ _ h => h) (Or.inr ⟨by rfl, rfl⟩) ?_ ?_; rotate_left; (· simp only [Act.put, setIfInBounds_toArray, set_cons_zero, set_cons_succ, i64_w, i32_w]; rfl)
   refine pure_ (i := 19) (N := some 31) (v := undef) (a' := ?_) (bl_41 23 1048575) rfl rfl (any_of HT_.out (by kernel_rfl)) (fun _ _ _ h => h) (Or.inr ⟨by rfl, rfl⟩) ?_ ?_; rotate_left; (· simp only [Act.put, setIfInBounds_toArray, set_cons_zero, set_cons_succ, i64_w, i32_w]; rfl)
   refine pure_ (i := 20) (N := some 32) (v := undef) (a' := ?_) (bl_41 23 2097151) rfl rfl (any_of HT_.out (by kernel_rfl)) (fun _ _ _ h => h) (Or.inr ⟨by rfl, rfl⟩) ?_ ?_; rotate_left; (· simp only [Act.put, setIfInBounds_toArray, set_cons_zero, set_cons_succ, i64_w, i32_w]; rfl)
   refine pure_ (i := 21) (N := some 33) (v := undef) (a' := ?_) (bl_41 23 4194303) rfl rfl (any_of HT_.out (by kernel_rfl)) (fun _ _ _ h => h) (Or.inr ⟨by rfl, rfl⟩) ?_ ?_; rotate_left; (· simp only [Act.put, setIfInBounds_toArray, set_cons_zero, set_cons_succ, i64_w, i32_w]; rfl)
   refine pure_ (i := 22) (N := some 34) (v := ?_) (a' := ?_) (bl_41 23 8388607) rfl rfl (any_of HT_.out (by kernel_rfl)) (fun _ _ _ h => h) (Or.inl ⟨by rfl, ?_⟩) ?_ ?_; rotate_left; (· intro w'; go_simp; with_reducible rfl); rotate_left; (· simp only [Act.put, setIfInBounds_toArray, set_cons_zero, set_cons_succ, i64_w, i32_w]; rfl)
   refine done_ (done_of HT_.out (by kernel_rfl)) ?_
   try go_wp2
   go_meet
   case rel => exact ⟨_, (true), (by first | rfl | (simp; done) | (simp [*]; done)), H', ⟨by first | omega | exact Nat.le_refl _⟩, ⟨by (with_reducible repeat (first | refine blk_drewN ?_ _ | refine blk_drew ?_ | refine blk_alloc ?_ _)); exact BK272.out⟩, ⟨by (with_reducible repeat (first | refine blk_drewN ?_ _ | refine blk_drew ?_ | refine blk_alloc ?_ _)); exact BK273.out⟩, ⟨by (with_reducible repeat (first | refine blk_drewN ?_ _ | refine blk_drew ?_ | refine blk_alloc ?_ _)); exact BK274.out⟩, ⟨by repeat (first | (with_reducible first | exact HB.out | apply below_alloc | apply pw_below_drewN | apply below_drew1 | refine below_set ?_ GE272.out | refine below_set ?_ GE273.out | refine below_set ?_ GE274.out) | exact HB.out)⟩⟩
 case rest =>
  clear HC5
  try clear c1
  try clear c2
  try clear p2
  try clear c3
  try clear c5
  try clear c10
  try clear c10b0
  try clear c10b1
  try clear c12
  try clear c12b0
  try clear c12b1
  try clear c12b2
  obtain ⟨kq, x34_4, rfl, HA, HJ4, BK272, BK273, BK274, HB⟩ := hcut
  cases kq with
  | zero => exact absurd HA.out (by simp [paroleref04_Collide.j0])
  | succ kj4 =>
   have H := HA.out
   clear HA
   simp only [paroleref04_Collide.j0] at H
   by_cases c20 : x34_4 = true
   ·
    subst c20
    have H1 : (some (0, 0, 0, 0, false)) = some (r1, r2, r3, r4, r5) := by rw [if_pos rfl] at H; exact H
    clear H
    have H := H1
    clear H1
    simp only [Option.some.injEq, Prod.mk.injEq] at H
    obtain ⟨rfl, rfl, rfl, rfl, rfl⟩ := H
    have hnb21 := NB274_272.out
    have hnc21 := NB272_274.out
    have hnb22 := NB274_273.out
    have hnc22 := NB273_274.out
    have hcz23_0 : wc.cell? ⟨gb274, 0, none⟩ = some (.int .u64 0) := (blk_cell BK274.out 0).trans rfl
    have hcz23_1 : wc.cell? ⟨gb274, 1, none⟩ = some (.int .u64 0) := (blk_cell BK274.out 1).trans rfl
    have hcz23_2 : wc.cell? ⟨gb274, 2, none⟩ = some (.int .u64 0) := (blk_cell BK274.out 2).trans rfl
    have hcz23_3 : wc.cell? ⟨gb274, 3, none⟩ = some (.int .u64 0) := (blk_cell BK274.out 3).trans rfl
    have hcz23_4 : wc.cell? ⟨gb274, 4, none⟩ = some (.bool false) := (blk_cell BK274.out 4).trans rfl
    have hfz23_0 := blk_frozen BK274.out 0
    have hfz23_1 := blk_frozen BK274.out 1
    have hfz23_2 := blk_frozen BK274.out 2
    have hfz23_3 := blk_frozen BK274.out 3
    have hfz23_4 := blk_frozen BK274.out 4
    go_wp2
    refine bodyPost_ret (results_cell_row rfl _ _ gb274 64 #[.int .u64 0, .int .u64 0, .int .u64 0, .int .u64 0, .bool false] (0, 0) _ rfl (by (with_reducible repeat (first | refine blk_drewN ?_ _ | refine blk_drew ?_ | refine blk_alloc ?_ _)); refine blk_put (cs := #[.int .u64 0, .int .u64 0, .int .u64 0, .int .u64 0, .bool false]) ?_ 4 _ rfl; (with_reducible repeat (first | refine blk_drewN ?_ _ | refine blk_drew ?_ | refine blk_alloc ?_ _)); refine blk_put (cs := #[.int .u64 0, .int .u64 0, .int .u64 0, .int .u64 0, .bool false]) ?_ 3 _ rfl; (with_reducible repeat (first | refine blk_drewN ?_ _ | refine blk_drew ?_ | refine blk_alloc ?_ _)); refine blk_put (cs := #[.int .u64 0, .int .u64 0, .int .u64 0, .int .u64 0, .bool false]) ?_ 2 _ rfl; (with_reducible repeat (first | refine blk_drewN ?_ _ | refine blk_drew ?_ | refine blk_alloc ?_ _)); refine blk_put (cs := #[.int .u64 0, .int .u64 0, .int .u64 0, .int .u64 0, .bool false]) ?_ 1 _ rfl; (with_reducible repeat (first | refine blk_drewN ?_ _ | refine blk_drew ?_ | refine blk_alloc ?_ _)); refine blk_put (cs := #[.int .u64 0, .int .u64 0, .int .u64 0, .int .u64 0, .bool false]) ?_ 0 _ rfl; (with_reducible repeat (first | refine blk_drewN ?_ _ | refine blk_drew ?_ | refine blk_alloc ?_ _)); exact BK274.out) Try.underlying64 rfl (by kernel_rfl)) rfl ?_
    exact ⟨by first | rfl | (simp [errW_none, errW_some] <;> rfl) | (simp [*, errW_none, errW_some] <;> rfl), by repeat (first | (with_reducible first | exact HB.out | apply below_alloc | apply pw_below_drewN | apply below_drew1 | refine below_set ?_ GE272.out | refine below_set ?_ GE273.out | refine below_set ?_ GE274.out) | exact HB.out)⟩
   ·
    replace c20 := Bool.eq_false_iff.mpr c20
    subst c20
    have H1 : ((paroleref04_Pairs.f kj4 a0 a1 a2_0 l2_1).bind fun t279 => ((paroleref04_Pairs.f kj4 a0 a1 a3_0 l3_1).bind fun t282 => (paroleref04_Collide.l0 kj4 t279 t282 0))) = some (r1, r2, r3, r4, r5) := by rw [if_neg (show ¬ (false = true) by decide)] at H; exact H
    clear H
    have H := H1
    clear H1
    replace H := Option.bind_eq_some_iff.mp H
    obtain ⟨t279, A240, H⟩ := H
    replace H : ((paroleref04_Pairs.f kj4 a0 a1 a3_0 l3_1).bind fun t282 => (paroleref04_Collide.l0 kj4 t279 t282 0)) = some (r1, r2, r3, r4, r5) := H
    have A24 := Aside0.mk A240
    clear A240
    replace H := Option.bind_eq_some_iff.mp H
    obtain ⟨t282, A250, H⟩ := H
    replace H : (paroleref04_Collide.l0 kj4 t279 t282 0) = some (r1, r2, r3, r4, r5) := H
    have A25 := Aside0.mk A250
    clear A250
    have H' := Aside0.mk H
    clear H
    try go_wp2
    have n0_ := Aside0.mk (blk_drew BK272.out)
    have n1_ := Aside0.mk (blk_drew BK273.out)
    have n2_ := Aside0.mk (blk_drew BK274.out)
    have n3_ := Aside0.mk (below_drew1 HB.out)
    clear BK272
    clear BK273
    clear BK274
    clear HB
    have BK272 := n0_
    have BK273 := n1_
    have BK274 := n2_
    have HB := n3_
    clear n0_ n1_ n2_ n3_
    refine start_ (n := 10) (S := fun w' => w'.cell? ⟨gb272, 0, none⟩ = some (.int .u64 a2_0) ∧ w'.cell? ⟨gb272, 1, none⟩ = some (.slice A2_1 l2_1.length c2_1) ∧ w'.cell? ⟨gb273, 0, none⟩ = some (.int .u64 a3_0) ∧ w'.cell? ⟨gb273, 1, none⟩ = some (.slice A3_1 l3_1.length c3_1)) (ds := []) #[false, false, false, false, false, false, false, false, false, false] (by kernel_rfl) rfl rfl ⟨(blk_cell BK272.out 0).trans rfl, (blk_cell BK272.out 1).trans rfl, (blk_cell BK273.out 0).trans rfl, (blk_cell BK273.out 1).trans rfl⟩ (fun hHeld => ?_); refine with_tabW paroleref04_Collide.tab3 paroleref04_Collide.bits3 (fun HT_ HW_ => ?_)
    generalize wc.drew = w26 at BK272 BK273 BK274 HB hHeld ⊢
    refine pure_ (i := 0) (N := some 36) (v := ?_) (a' := ?_) (bl_41 10 1) rfl rfl (any_of HT_.out (by kernel_rfl)) (fun _ _ _ h => h) (Or.inl ⟨by rfl, ?_⟩) ?_ ?_; rotate_left; (· intro w'; go_simp; with_reducible rfl); rotate_left; (· simp only [Act.put, setIfInBounds_toArray, set_cons_zero, set_cons_succ, i64_w, i32_w]; rfl)
    refine pure_ (i := 1) (N := some 37) (v := ?_) (a' := ?_) (bl_41 10 3) rfl rfl (any_of HT_.out (by kernel_rfl)) (fun _ _ _ h => h) (Or.inl ⟨by rfl, ?_⟩) ?_ ?_; rotate_left; (· intro w'; go_simp; with_reducible rfl); rotate_left; (· simp only [Act.put, setIfInBounds_toArray, set_cons_zero, set_cons_succ, i64_w, i32_w]; rfl)
    refine pure_ (i := 4) (N := some 40) (v := ?_) (a' := ?_) (bl_41 10 19) rfl rfl (any_of HT_.out (by kernel_rfl)) (fun _ _ _ h => h) (Or.inl ⟨by rfl, ?_⟩) ?_ ?_; rotate_left; (· intro w'; go_simp; with_reducible rfl); rotate_left; (· simp only [Act.put, setIfInBounds_toArray, set_cons_zero, set_cons_succ, i64_w, i32_w]; rfl)
    refine pure_ (i := 5) (N := some 41) (v := ?_) (a' := ?_) (bl_41 10 51) rfl rfl (any_of HT_.out (by kernel_rfl)) (fun _ _ _ h => h) (Or.inl ⟨by rfl, ?_⟩) ?_ ?_; rotate_left; (· intro w'; go_simp; with_reducible rfl); rotate_left; (· simp only [Act.put, setIfInBounds_toArray, set_cons_zero, set_cons_succ, i64_w, i32_w]; rfl)
    refine take_ (i := 2) (N := some 38) (v := ?_) (a' := ?_) (bl_41 10 55) rfl rfl (take_ofW HT_.out HW_.out (by kernel_rfl)) (fun _ _ _ h => h) (Or.inl ⟨by rfl, ?_⟩) hHeld ?_ ?_; rotate_left; (· rintro w' ⟨s0, s1, s2, s3⟩; go_simp; with_reducible rfl); rotate_left; (· simp only [Act.put, setIfInBounds_toArray, set_cons_zero, set_cons_succ, i64_w, i32_w]; rfl)
    refine take_ (i := 6) (N := some 42) (v := ?_) (a' := ?_) (bl_41 10 119) rfl rfl (take_ofW HT_.out HW_.out (by kernel_rfl)) (fun _ _ _ h => h) (Or.inl ⟨by rfl, ?_⟩) hHeld ?_ ?_; rotate_left; (· rintro w' ⟨s0, s1, s2, s3⟩; go_simp; with_reducible rfl); rotate_left; (· simp only [Act.put, setIfInBounds_toArray, set_cons_zero, set_cons_succ, i64_w, i32_w]; rfl)
    refine one_ (i := 3) (N := some 39) (bl_41 10 127) rfl rfl (one_of HT_.out (by kernel_rfl)) (by decide) (fun K hK => ?_)
    refine goes_ Try.func53 (by kernel_rfl) rfl #[.int .i64 a0, .int .i64 a1, .agg #[.int .u64 a2_0, .slice A2_1 l2_1.length c2_1]] (by rfl) rfl rfl (by (try simp only [map_toArray, map_cons, map_nil]); first | done | rfl) ?_
    with_reducible refine (paroleref04_Pairs.calls kj4 a0 a1 a2_0 _ _ l2_1 t279 _ ?side1 ?side2 A24.out).mono ?_
    (case side1 => repeat (first | exact (Kd.C_below HR2_1.out HB.out) | (with_reducible refine Kd.C_alloc ?_ _) | (with_reducible refine Kd.C_drewN ?_ _) | (with_reducible refine Kd.C_drew ?_)))
    (case side2 => exact HC2_1.out)
    rintro e w27 ⟨v280, rfl, ho0, hb⟩
    refine ⟨_, rfl, ?_⟩
    have n0_ := Aside0.mk (Kd.R_lower ho0 (below_size (by repeat (first | (with_reducible first | exact HB.out | apply below_alloc | apply pw_below_drewN | apply below_drew1 | refine below_set ?_ GE272.out | refine below_set ?_ GE273.out | refine below_set ?_ GE274.out) | exact HB.out))))
    have n1_ := Aside0.mk (blk_below (g := gb272) (o := .cells #[.int .u64 a2_0, .slice A2_1 l2_1.length c2_1] 50 (0, 0)) (by (with_reducible repeat (first | refine blk_drewN ?_ _ | refine blk_drew ?_ | refine blk_alloc ?_ _)); exact BK272.out) hb)
    have n2_ := Aside0.mk (blk_below (g := gb273) (o := .cells #[.int .u64 a3_0, .slice A3_1 l3_1.length c3_1] 50 (0, 0)) (by (with_reducible repeat (first | refine blk_drewN ?_ _ | refine blk_drew ?_ | refine blk_alloc ?_ _)); exact BK273.out) hb)
    have n3_ := Aside0.mk (blk_below (g := gb274) (o := .cells #[.int .u64 0, .int .u64 0, .int .u64 0, .int .u64 0, .bool false] 64 (0, 0)) (by (with_reducible repeat (first | refine blk_drewN ?_ _ | refine blk_drew ?_ | refine blk_alloc ?_ _)); exact BK274.out) hb)
    have n4_ := Aside0.mk (below_step (by repeat (first | (with_reducible first | exact HB.out | apply below_alloc | apply pw_below_drewN | apply below_drew1 | refine below_set ?_ GE272.out | refine below_set ?_ GE273.out | refine below_set ?_ GE274.out) | exact HB.out)) hb)
    clear BK272
    clear BK273
    clear BK274
    clear HB
    have HO281 := n0_
    have BK272 := n1_
    have BK273 := n2_
    have BK274 := n3_
    have HB := n4_
    clear n0_ n1_ n2_ n3_ n4_
    (try clear hb)
    (try clear hb2)
    (try clear hk)
    (try clear hi)
    (try clear ho0)
    refine hK.out _ _ ⟨(blk_cell BK272.out 0).trans rfl, (blk_cell BK272.out 1).trans rfl, (blk_cell BK273.out 0).trans rfl, (blk_cell BK273.out 1).trans rfl⟩ (fun hHeld => ?_)
    clear hK K
    refine norm_ (a' := ?_) ?_ ?_
    rotate_left
    ·
     show Act.put _ (some 39) _ = _
     simp only [Act.put, setIfInBounds_toArray, set_cons_zero, set_cons_succ, i64_w, i32_w]
     rfl
    refine one_ (i := 7) (N := some 43) (bl_41 10 255) rfl rfl (one_of HT_.out (by kernel_rfl)) (by decide) (fun K hK => ?_)
    refine goes_ Try.func53 (by kernel_rfl) rfl #[.int .i64 a0, .int .i64 a1, .agg #[.int .u64 a3_0, .slice A3_1 l3_1.length c3_1]] (by rfl) rfl rfl (by (try simp only [map_toArray, map_cons, map_nil]); first | done | rfl) ?_
    with_reducible refine (paroleref04_Pairs.calls kj4 a0 a1 a3_0 _ _ l3_1 t282 _ ?side1 ?side2 A25.out).mono ?_
    (case side1 => repeat (first | exact (Kd.C_below HR3_1.out HB.out) | (with_reducible refine Kd.C_alloc ?_ _) | (with_reducible refine Kd.C_drewN ?_ _) | (with_reducible refine Kd.C_drew ?_)))
    (case side2 => exact HC3_1.out)
    rintro e w28 ⟨v283, rfl, ho0, hb⟩
    refine ⟨_, rfl, ?_⟩
    have n0_ := Aside0.mk (Kd.R_elder' (by (with_reducible repeat (first | apply Kd.R_alloc | apply Kd.R_drewN | apply Kd.R_drew)); exact HO281.out) (Kd.R_base ho0) hb)
    have n1_ := Aside0.mk (Kd.R_lower (Kd.R_new' ho0 (Kd.R_lt (by (with_reducible repeat (first | apply Kd.R_alloc | apply Kd.R_drewN | apply Kd.R_drew)); exact HO281.out))) (below_size (by repeat (first | (with_reducible first | exact HB.out | apply below_alloc | apply pw_below_drewN | apply below_drew1 | refine below_set ?_ GE272.out | refine below_set ?_ GE273.out | refine below_set ?_ GE274.out) | exact HB.out))))
    have n2_ := Aside0.mk (blk_below (g := gb272) (o := .cells #[.int .u64 a2_0, .slice A2_1 l2_1.length c2_1] 50 (0, 0)) (by (with_reducible repeat (first | refine blk_drewN ?_ _ | refine blk_drew ?_ | refine blk_alloc ?_ _)); exact BK272.out) hb)
    have n3_ := Aside0.mk (blk_below (g := gb273) (o := .cells #[.int .u64 a3_0, .slice A3_1 l3_1.length c3_1] 50 (0, 0)) (by (with_reducible repeat (first | refine blk_drewN ?_ _ | refine blk_drew ?_ | refine blk_alloc ?_ _)); exact BK273.out) hb)
    have n4_ := Aside0.mk (blk_below (g := gb274) (o := .cells #[.int .u64 0, .int .u64 0, .int .u64 0, .int .u64 0, .bool false] 64 (0, 0)) (by (with_reducible repeat (first | refine blk_drewN ?_ _ | refine blk_drew ?_ | refine blk_alloc ?_ _)); exact BK274.out) hb)
    have n5_ := Aside0.mk (below_step (by repeat (first | (with_reducible first | exact HB.out | apply below_alloc | apply pw_below_drewN | apply below_drew1 | refine below_set ?_ GE272.out | refine below_set ?_ GE273.out | refine below_set ?_ GE274.out) | exact HB.out)) hb)
    clear HO281
    clear BK272
    clear BK273
    clear BK274
    clear HB
    have HO281 := n0_
    have HO284 := n1_
    have BK272 := n2_
    have BK273 := n3_
    have BK274 := n4_
    have HB := n5_
    clear n0_ n1_ n2_ n3_ n4_ n5_
    (try clear hb)
    (try clear hb2)
    (try clear hk)
    (try clear hi)
    (try clear ho0)
    refine hK.out _ _ ⟨(blk_cell BK272.out 0).trans rfl, (blk_cell BK272.out 1).trans rfl, (blk_cell BK273.out 0).trans rfl, (blk_cell BK273.out 1).trans rfl⟩ (fun hHeld => ?_)
    clear hK K
    refine norm_ (a' := ?_) ?_ ?_
    rotate_left
    ·
     show Act.put _ (some 43) _ = _
     simp only [Act.put, setIfInBounds_toArray, set_cons_zero, set_cons_succ, i64_w, i32_w]
     rfl
    refine pure_ (i := 8) (N := some 9) (v := ?_) (a' := ?_) (bl_41 10 511) rfl rfl (any_of HT_.out (by kernel_rfl)) (fun _ _ _ h => h) (Or.inl ⟨by rfl, ?_⟩) ?_ ?_; rotate_left; (· intro w'; go_simp; with_reducible rfl); rotate_left; (· simp only [Act.put, setIfInBounds_toArray, set_cons_zero, set_cons_succ, i64_w, i32_w]; rfl)
    refine pure_ (i := 9) (N := some 10) (v := ?_) (a' := ?_) (bl_41 10 1023) rfl rfl (any_of HT_.out (by kernel_rfl)) (fun _ _ _ h => h) (Or.inl ⟨by rfl, ?_⟩) ?_ ?_; rotate_left; (· intro w'; go_simp; with_reducible rfl); rotate_left; (· simp only [Act.put, setIfInBounds_toArray, set_cons_zero, set_cons_succ, i64_w, i32_w]; rfl)
    refine done_ (done_of HT_.out (by kernel_rfl)) ?_
    try go_wp2
    go_loopg [11] kj4 (fun kq v11 w' => ∃ (x11_2 : Int) (x275000_2 : Int) (x275001_2 : Int) (x275002_2 : Int) (x275003_2 : Int) (x275004_2 : Bool), v11 = .int .i64 x11_2 ∧ Aside0 (paroleref04_Collide.l0 kq t279 t282 x11_2 = some (r1, r2, r3, r4, r5)) ∧ Aside0 (kq ≤ kj4) ∧ Aside0 (Kd.R k59 59 w' w.heap.size (fun k_ => some k_ ≠ (v283 : Value).ownBlock) v280 t279) ∧ Aside0 (Kd.R k59 59 w' w.heap.size (fun k_ => some k_ ≠ (v280 : Value).ownBlock) v283 t282) ∧ Aside0 (w'.heap[gb272]? = some (.cells #[.int .u64 a2_0, (.slice A2_1 l2_1.length c2_1)] 50 (0, 0))) ∧ Aside0 (w'.heap[gb273]? = some (.cells #[.int .u64 a3_0, (.slice A3_1 l3_1.length c3_1)] 50 (0, 0))) ∧ Aside0 (w'.heap[gb274]? = some (.cells #[.int .u64 x275000_2, .int .u64 x275001_2, .int .u64 x275002_2, .int .u64 x275003_2, .bool x275004_2] 64 (0, 0))) ∧ Aside0 (Below w.heap.size w w'))
    case atStart => exact ⟨(0), (0), (0), (0), (0), (false), (by first | rfl | (simp; done) | (simp [*]; done)), H', ⟨Nat.le_refl _⟩, ⟨by (with_reducible repeat (first | apply Kd.R_alloc | apply Kd.R_drewN | apply Kd.R_drew)); exact Kd.R_mono HO281.out (fun _ hk => by first | exact hk.2 | exact hk | exact ⟨hk.2, hk.1⟩ | simp_all)⟩, ⟨by (with_reducible repeat (first | apply Kd.R_alloc | apply Kd.R_drewN | apply Kd.R_drew)); exact Kd.R_mono HO284.out (fun _ hk => by first | exact hk.2 | exact hk | exact ⟨hk.2, hk.1⟩ | simp_all)⟩, ⟨by (with_reducible repeat (first | refine blk_drewN ?_ _ | refine blk_drew ?_ | refine blk_alloc ?_ _)); exact BK272.out⟩, ⟨by (with_reducible repeat (first | refine blk_drewN ?_ _ | refine blk_drew ?_ | refine blk_alloc ?_ _)); exact BK273.out⟩, ⟨by (with_reducible repeat (first | refine blk_drewN ?_ _ | refine blk_drew ?_ | refine blk_alloc ?_ _)); exact BK274.out⟩, ⟨by repeat (first | (with_reducible first | exact HB.out | apply below_alloc | apply pw_below_drewN | apply below_drew1 | refine below_set ?_ GE272.out | refine below_set ?_ GE273.out | refine below_set ?_ GE274.out) | exact HB.out)⟩⟩
    case round =>
     clear H'
     try clear c1
     try clear c2
     try clear p2
     try clear c3
     try clear c5
     try clear c10
     try clear c10b0
     try clear c10b1
     try clear c12
     try clear c12b0
     try clear c12b1
     try clear c12b2
     try clear c20
     try clear c21
     try clear c22
     try clear hcz23_0
     try clear hcz23_1
     try clear hcz23_2
     try clear hcz23_3
     try clear hcz23_4
     try clear hfz23_0
     try clear hfz23_1
     try clear hfz23_2
     try clear hfz23_3
     try clear hfz23_4
     try clear p2
     obtain ⟨x11_2, x275000_2, x275001_2, x275002_2, x275003_2, x275004_2, rfl, HA, HK2, HO_9, HO_10, BK272, BK273, BK274, HB⟩ := hrel
     cases gk with
     | zero => exact absurd HA.out (by simp [paroleref04_Collide.l0])
     | succ k2 =>
      have H := HA.out
      clear HA
      simp only [paroleref04_Collide.l0] at H
      by_cases c29 : x11_2 < (t279.length : Int)
      ·
       rw [if_pos c29] at H
       have c29b0 : decide (x11_2 < (t279.length : Int)) = true := decide_eq_true c29
       clear c29
       by_cases c30 : 0 ≤ x11_2
       ·
        rw [if_pos c30] at H
        have c30b0 : decide (0 ≤ x11_2) = true := decide_eq_true c30
        clear c30
        by_cases c31 : x11_2 < (t282.length : Int)
        ·
         rw [if_pos c31] at H
         have c31b0 : decide (x11_2 < (t282.length : Int)) = true := decide_eq_true c31
         clear c31
         by_cases c32 : ((rd_T59 t279 x11_2).f0) = ((rd_T59 t282 x11_2).f0)
         ·
          rw [if_pos c32] at H
          have c32b0 : (((rd_T59 t279 x11_2).f0) == ((rd_T59 t282 x11_2).f0)) = true := beq_iff_eq.mpr c32
          have c32b1 : (((rd_T59 t279 x11_2).f0) != ((rd_T59 t282 x11_2).f0)) = false := bne_eq_false_iff_eq.mpr c32
          clear c32
          by_cases c33 : ((rd_T59 t279 x11_2).f1) = ((rd_T59 t282 x11_2).f1)
          ·
           rw [if_pos c33] at H
           have c33b0 : (((rd_T59 t279 x11_2).f1) == ((rd_T59 t282 x11_2).f1)) = true := beq_iff_eq.mpr c33
           have c33b1 : (((rd_T59 t279 x11_2).f1) != ((rd_T59 t282 x11_2).f1)) = false := bne_eq_false_iff_eq.mpr c33
           clear c33
           have H' := Aside0.mk H
           clear H
           obtain ⟨Ao34, co34, eo34⟩ := Kd.R_slice HO_9.out
           subst eo34
           try go_wp2
           have n0_ := Aside0.mk (Kd.R_drew HO_9.out)
           have n1_ := Aside0.mk (Kd.R_drew HO_10.out)
           have n2_ := Aside0.mk (blk_drew BK272.out)
           have n3_ := Aside0.mk (blk_drew BK273.out)
           have n4_ := Aside0.mk (blk_drew BK274.out)
           have n5_ := Aside0.mk (below_drew1 HB.out)
           clear HO_9
           clear HO_10
           clear BK272
           clear BK273
           clear BK274
           clear HB
           have HO_9 := n0_
           have HO_10 := n1_
           have BK272 := n2_
           have BK273 := n3_
           have BK274 := n4_
           have HB := n5_
           clear n0_ n1_ n2_ n3_ n4_ n5_
           have p285 : 0 ≤ (x11_2 : Int) := of_decide_eq_true (by first | (with_reducible assumption) | assumption)
           have q285 : x11_2 < (t279.length : Int) := of_decide_eq_true (by first | (with_reducible assumption) | assumption)
           obtain ⟨ad285, e285, hx285_0, hx285_1⟩ := at_T59 (Kd.R_reads' HO_9.out).2.2 x11_2 p285 q285
           cases e285
           replace p285 := eq_true p285
           replace q285 := eq_true q285
           obtain ⟨Ao36, co36, eo36⟩ := Kd.R_slice HO_10.out
           (first | subst eo36 | (injection eo36 with f1_ f2_ f3_; have f4_ := f1_.symm; have f5_ := f3_.symm; clear f1_ f2_ f3_; subst f4_; subst f5_))
           have p286 : 0 ≤ (x11_2 : Int) := of_decide_eq_true (by first | (with_reducible assumption) | assumption)
           have q286 : x11_2 < (t282.length : Int) := of_decide_eq_true (by first | (with_reducible assumption) | assumption)
           obtain ⟨ad286, e286, hx286_0, hx286_1⟩ := at_T59 (Kd.R_reads' HO_10.out).2.2 x11_2 p286 q286
           cases e286
           replace p286 := eq_true p286
           replace q286 := eq_true q286
           refine start_ (n := 34) (S := fun w' => w'.cell? (ad285.add ((x11_2).toNat * 2)) = some (.int .u64 ((rd_T59 t279 x11_2).f0)) ∧ w'.cell? ⟨(ad285.add ((x11_2).toNat * 2)).block, (ad285.add ((x11_2).toNat * 2)).off + 1, none⟩ = some (.int .u64 ((rd_T59 t279 x11_2).f1)) ∧ w'.cell? (ad286.add ((x11_2).toNat * 2)) = some (.int .u64 ((rd_T59 t282 x11_2).f0)) ∧ w'.cell? ⟨(ad286.add ((x11_2).toNat * 2)).block, (ad286.add ((x11_2).toNat * 2)).off + 1, none⟩ = some (.int .u64 ((rd_T59 t282 x11_2).f1))) (ds := []) #[false, false, false, false, false, false, false, false, false, false, false, false, false, false, false, false, false, false, false, false, false, false, false, false, false, false, false, false, false, false, false, false, false, false] (by kernel_rfl) rfl rfl ⟨hx285_0, hx285_1, hx286_0, hx286_1⟩ (fun hHeld => ?_); refine with_tabW paroleref04_Collide.tab7 paroleref04_Collide.bits7 (fun HT_ HW_ => ?_)
           generalize wr.drew = w35 at HO_9 HO_10 BK272 BK273 BK274 HB hx285_0 hx285_1 hx286_0 hx286_1 hHeld ⊢
           refine pure_ (i := 0) (N := some 50) (v := ?_) (a' := ?_) (bl_41 34 1) rfl rfl (any_of HT_.out (by kernel_rfl)) (fun _ _ _ h => h) (Or.inl ⟨by rfl, ?_⟩) ?_ ?_; rotate_left; (· intro w'; go_simp; with_reducible rfl); rotate_left; (· simp only [Act.put, setIfInBounds_toArray, set_cons_zero, set_cons_succ, i64_w, i32_w]; rfl)
           refine pure_ (i := 1) (N := some 51) (v := ?_) (a' := ?_) (bl_41 34 3) rfl rfl (any_of HT_.out (by kernel_rfl)) (fun _ _ _ h => h) (Or.inl ⟨by rfl, ?_⟩) ?_ ?_; rotate_left; (· intro w'; go_simp; with_reducible rfl); rotate_left; (· simp only [Act.put, setIfInBounds_toArray, set_cons_zero, set_cons_succ, i64_w, i32_w]; rfl)
           refine pure_ (i := 2) (N := some 52) (v := ?_) (a' := ?_) (bl_41 34 7) rfl rfl (any_of HT_.out (by kernel_rfl)) (fun _ _ _ h => h) (Or.inl ⟨by rfl, ?_⟩) ?_ ?_; rotate_left; (· intro w'; go_simp; with_reducible rfl); rotate_left; (· simp only [Act.put, setIfInBounds_toArray, set_cons_zero, set_cons_succ, i64_w, i32_w]; rfl)
           refine pure_ (i := 4) (N := some 54) (v := ?_) (a' := ?_) (bl_41 34 23) rfl rfl (any_of HT_.out (by kernel_rfl)) (fun _ _ _ h => h) (Or.inl ⟨by rfl, ?_⟩) ?_ ?_; rotate_left; (· intro w'; go_simp; with_reducible rfl); rotate_left; (· simp only [Act.put, setIfInBounds_toArray, set_cons_zero, set_cons_succ, i64_w, i32_w]; rfl)
           refine pure_ (i := 5) (N := some 55) (v := ?_) (a' := ?_) (bl_41 34 55) rfl rfl (any_of HT_.out (by kernel_rfl)) (fun _ _ _ h => h) (Or.inl ⟨by rfl, ?_⟩) ?_ ?_; rotate_left; (· intro w'; go_simp; with_reducible rfl); rotate_left; (· simp only [Act.put, setIfInBounds_toArray, set_cons_zero, set_cons_succ, i64_w, i32_w]; rfl)
           refine pure_ (i := 6) (N := some 56) (v := ?_) (a' := ?_) (bl_41 34 119) rfl rfl (any_of HT_.out (by kernel_rfl)) (fun _ _ _ h => h) (Or.inl ⟨by rfl, ?_⟩) ?_ ?_; rotate_left; (· intro w'; go_simp; with_reducible rfl); rotate_left; (· simp only [Act.put, setIfInBounds_toArray, set_cons_zero, set_cons_succ, i64_w, i32_w]; rfl)
           refine take_ (i := 3) (N := some 53) (v := ?_) (a' := ?_) (bl_41 34 127) rfl rfl (take_ofW HT_.out HW_.out (by kernel_rfl)) (fun _ _ _ h => h) (Or.inl ⟨by rfl, ?_⟩) hHeld ?_ ?_; rotate_left; (· rintro w' ⟨s0, s1, s2, s3⟩; go_simp; with_reducible rfl); rotate_left; (· simp only [Act.put, setIfInBounds_toArray, set_cons_zero, set_cons_succ, i64_w, i32_w]; rfl)
           refine take_ (i := 7) (N := some 57) (v := ?_) (a' := ?_) (bl_41 34 255) rfl rfl (take_ofW HT_.out HW_.out (by kernel_rfl)) (fun _ _ _ h => h) (Or.inl ⟨by rfl, ?_⟩) hHeld ?_ ?_; rotate_left; (· rintro w' ⟨s0, s1, s2, s3⟩; go_simp; with_reducible rfl); rotate_left; (· simp only [Act.put, setIfInBounds_toArray, set_cons_zero, set_cons_succ, i64_w, i32_w]; rfl)
           refine pure_ (i := 8) (N := some 58) (v := ?_) (a' := ?_) (bl_41 34 511) rfl rfl (any_of HT_.out (by kernel_rfl)) (fun _ _ _ h => h) (Or.inl ⟨by rfl, ?_⟩) ?_ ?_; rotate_left; (· intro w'; go_simp; with_reducible rfl); rotate_left; (· simp only [Act.put, setIfInBounds_toArray, set_cons_zero, set_cons_succ, i64_w, i32_w]; rfl)
           refine pure_ (i := 9) (N := some 59) (v := ?_) (a' := ?_) (bl_41 34 1023) rfl rfl (any_of HT_.out (by kernel_rfl)) (fun _ _ _ h => h) (Or.inl ⟨by rfl, ?_⟩) ?_ ?_; rotate_left; (· intro w'; go_simp; with_reducible rfl); rotate_left; (· simp only [Act.put, setIfInBounds_toArray, set_cons_zero, set_cons_succ, i64_w, i32_w]; rfl)
           refine pure_ (i := 10) (N := some 60) (v := undef) (a' := ?_) (bl_41 34 2047) rfl rfl (any_of HT_.out (by kernel_rfl)) (fun _ _ _ h => h) (Or.inr ⟨by rfl, rfl⟩) ?_ ?_; rotate_left; (· simp only [Act.put, setIfInBounds_toArray, set_cons_zero, set_cons_succ, i64_w, i32_w]; rfl)
           refine pure_ (i := 11) (N := some 61) (v := undef) (a' := ?_) (bl_41 34 4095) rfl rfl (any_of HT_.out (by kernel_rfl)) (fun _ _ _ h => h) (Or.inr ⟨by rfl, rfl⟩) ?_ ?_; rotate_left; (· simp only [Act.put, setIfInBounds_toArray, set_cons_zero, set_cons_succ, i64_w, i32_w]; rfl)
           refine pure_ (i := 12) (N := some 62) (v := undef) (a' := ?_) (bl_41 34 8191) rfl rfl (any_of HT_.out (by kernel_rfl)) (fun _ _ _ h => h) (Or.inr ⟨by rfl, rfl⟩) ?_ ?_; rotate_left; (· simp only [Act.put, setIfInBounds_toArray, set_cons_zero, set_cons_succ, i64_w, i32_w]; rfl)
           refine pure_ (i := 13) (N := some 63) (v := undef) (a' := ?_) (bl_41 34 16383) rfl rfl (any_of HT_.out (by kernel_rfl)) (fun _ _ _ h => h) (Or.inr ⟨by rfl, rfl⟩) ?_ ?_; rotate_left; (· simp only [Act.put, setIfInBounds_toArray, set_cons_zero, set_cons_succ, i64_w, i32_w]; rfl)
           refine pure_ (i := 14) (N := some 64) (v := undef) (a' := ?_) (bl_41 34 32767) rfl rfl (any_of HT_.out (by kernel_rfl)) (fun _ _ _ h => h) (Or.inr ⟨by rfl, rfl⟩) ?_ ?_; rotate_left; (· simp only [Act.put, setIfInBounds_toArray, set_cons_zero, set_cons_succ, i64_w, i32_w]; rfl)
           refine pure_ (i := 15) (N := some 65) (v := undef) (a' := ?_) (bl_41 34 65535) rfl rfl (any_of HT_.out (by kernel_rfl)) (fun _ _ _ h => h) (Or.inr ⟨by rfl, rfl⟩) ?_ ?_; rotate_left; (· simp only [Act.put, setIfInBounds_toArray, set_cons_zero, set_cons_succ, i64_w, i32_w]; rfl)
           refine pure_ (i := 16) (N := some 66) (v := undef) (a' := ?_) (bl_41 34 131071) rfl rfl (any_of HT_.out (by kernel_rfl)) (fun _ _ _ h => h) (Or.inr ⟨by rfl, rfl⟩) ?_ ?_; rotate_left; (· simp only [Act.put, setIfInBounds_toArray, set_cons_zero, set_cons_succ, i64_w, i32_w]; rfl)
           refine pure_ (i := 17) (N := some 67) (v := undef) (a' := ?_) (bl_41 34 262143) rfl rfl (any_of HT_.out (by kernel_rfl)) (fun _ _ _ h => h) (Or.inr ⟨by rfl, rfl⟩) ?_ ?_; rotate_left; (· simp only [Act.put, setIfInBounds_toArray, set_cons_zero, set_cons_succ, i64_w, i32_w]; rfl)
           refine pure_ (i := 18) (N := some 68) (v := undef) (a' := ?_) (bl_41 34 524287) rfl rfl (any_of HT_.out (by kernel_rfl)) (fun _ _ _ h => h) (Or.inr ⟨by rfl, rfl⟩) ?_ ?_; rotate_left; (· simp only [Act.put, setIfInBounds_toArray, set_cons_zero, set_cons_succ, i64_w, i32_w]; rfl)
           refine pure_ (i := 19) (N := some 69) (v := undef) (a' := ?_) (bl_41 34 1048575) rfl rfl (any_of HT_.out (by kernel_rfl)) (fun _ _ _ h => h) (Or.inr ⟨by rfl, rfl⟩) ?_ ?_; rotate_left; (· simp only [Act.put, setIfInBounds_toArray, set_cons_zero, set_cons_succ, i64_w, i32_w]; rfl)
           refine pure_ (i := 20) (N := some 70) (v := undef) (a' := ?_) (bl_41 34 2097151) rfl rfl (any_of HT_.out (by kernel_rfl)) (fun _ _ _ h => h) (Or.inr ⟨by rfl, rfl⟩) ?_ ?_; rotate_left; (· simp only [Act.put, setIfInBounds_toArray, set_cons_zero, set_cons_succ, i64_w, i32_w]; rfl)
           refine pure_ (i := 21) (N := some 71) (v := undef) (a' := ?_) (bl_41 34 4194303) rfl rfl (any_of HT_.out (by kernel_rfl)) (fun _ _ _ h => h) (Or.inr ⟨by rfl, rfl⟩) ?_ ?_; rotate_left; (· simp only [Act.put, setIfInBounds_toArray, set_cons_zero, set_cons_succ, i64_w, i32_w]; rfl)
           refine pure_ (i := 22) (N := some 72) (v := undef) (a' := ?_) (bl_41 34 8388607) rfl rfl (any_of HT_.out (by kernel_rfl)) (fun _ _ _ h => h) (Or.inr ⟨by rfl, rfl⟩) ?_ ?_; rotate_left; (· simp only [Act.put, setIfInBounds_toArray, set_cons_zero, set_cons_succ, i64_w, i32_w]; rfl)
           refine pure_ (i := 23) (N := some 73) (v := undef) (a' := ?_) (bl_41 34 16777215) rfl rfl (any_of HT_.out (by kernel_rfl)) (fun _ _ _ h => h) (Or.inr ⟨by rfl, rfl⟩) ?_ ?_; rotate_left; (· simp only [Act.put, setIfInBounds_toArray, set_cons_zero, set_cons_succ, i64_w, i32_w]; rfl)
           refine pure_ (i := 24) (N := some 74) (v := undef) (a' := ?_) (bl_41 34 33554431) rfl rfl (any_of HT_.out (by kernel_rfl)) (fun _ _ _ h => h) (Or.inr ⟨by rfl, rfl⟩) ?_ ?_; rotate_left; (· simp only [Act.put, setIfInBounds_toArray, set_cons_zero, set_cons_succ, i64_w, i32_w]; rfl)
           refine pure_ (i := 25) (N := some 75) (v := undef) (a' := ?_) (bl_41 34 67108863) rfl rfl (any_of HT_.out (by kernel_rfl)) (fun _ _ _ h => h) (Or.inr ⟨by rfl, rfl⟩) ?_ ?_; rotate_left; (· simp only [Act.put, setIfInBounds_toArray, set_cons_zero, set_cons_succ, i64_w, i32_w]; rfl)
           refine pure_ (i := 26) (N := some 76) (v := undef) (a' := ?_) (bl_41 34 134217727) rfl rfl (any_of HT_.out (by kernel_rfl)) (fun _ _ _ h => h) (Or.inr ⟨by rfl, rfl⟩) ?_ ?_; rotate_left; (· simp only [Act.put, setIfInBounds_toArray, set_cons_zero, set_cons_succ, i64_w, i32_w]; rfl)
           refine pure_ (i := 27) (N := some 77) (v := undef) (a' := ?_) (bl_41 34 268435455) rfl rfl (any_of HT_.out (by kernel_rfl)) (fun _ _ _ h => h) (Or.inr ⟨by rfl, rfl⟩) ?_ ?_; rotate_left; (· simp only [Act.put, setIfInBounds_toArray, set_cons_zero, set_cons_succ, i64_w, i32_w]; rfl)
           refine pure_ (i := 28) (N := some 78) (v := undef) (a' := ?_) (bl_41 34 536870911) rfl rfl (any_of HT_.out (by kernel_rfl)) (fun _ _ _ h => h) (Or.inr ⟨by rfl, rfl⟩) ?_ ?_; rotate_left; (· simp only [Act.put, setIfInBounds_toArray, set_cons_zero, set_cons_succ, i64_w, i32_w]; rfl)
           refine pure_ (i := 29) (N := some 79) (v := undef) (a' := ?_) (bl_41 34 1073741823) rfl rfl (any_of HT_.out (by kernel_rfl)) (fun _ _ _ h => h) (Or.inr ⟨by rfl, rfl⟩) ?_ ?_; rotate_left; (· simp only [Act.put, setIfInBounds_toArray, set_cons_zero, set_cons_succ, i64_w, i32_w]; rfl)
           refine pure_ (i := 30) (N := some 80) (v := undef) (a' := ?_) (bl_41 34 2147483647) rfl rfl (any_of HT_.out (by kernel_rfl)) (fun _ _ _ h => h) (Or.inr ⟨by rfl, rfl⟩) ?_ ?_; rotate_left; (· simp only [Act.put, setIfInBounds_toArray, set_cons_zero, set_cons_succ, i64_w, i32_w]; rfl)
           refine pure_ (i := 31) (N := some 81) (v := undef) (a' := ?_) (bl_41 34 4294967295) rfl rfl (any_of HT_.out (by kernel_rfl)) (fun _ _ _ h => h) (Or.inr ⟨by rfl, rfl⟩) ?_ ?_; rotate_left; (· simp only [Act.put, setIfInBounds_toArray, set_cons_zero, set_cons_succ, i64_w, i32_w]; rfl)
           refine pure_ (i := 32) (N := some 82) (v := undef) (a' := ?_) (bl_41 34 8589934591) rfl rfl (any_of HT_.out (by kernel_rfl)) (fun _ _ _ h => h) (Or.inr ⟨by rfl, rfl⟩) ?_ ?_; rotate_left; (· simp only [Act.put, setIfInBounds_toArray, set_cons_zero, set_cons_succ, i64_w, i32_w]; rfl)
           refine pure_ (i := 33) (N := some 83) (v := ?_) (a' := ?_) (bl_41 34 17179869183) rfl rfl (any_of HT_.out (by kernel_rfl)) (fun _ _ _ h => h) (Or.inl ⟨by rfl, ?_⟩) ?_ ?_; rotate_left; (· intro w'; go_simp; with_reducible rfl); rotate_left; (· simp only [Act.put, setIfInBounds_toArray, set_cons_zero, set_cons_succ, i64_w, i32_w]; rfl)
           refine done_ (done_of HT_.out (by kernel_rfl)) ?_
           try go_wp2
           go_roundg k2
           case measure => have := HJ4.out; have := HK2.out; omega
           case rel => exact ⟨(wrap64 (x11_2 + 1)), (x275000_2), (x275001_2), (x275002_2), (x275003_2), (x275004_2), (by first | rfl | (simp; done) | (simp [*]; done)), H', ⟨by have := HJ4.out; have := HK2.out; omega⟩, ⟨by (with_reducible repeat (first | apply Kd.R_alloc | apply Kd.R_drewN | apply Kd.R_drew)); exact HO_9.out⟩, ⟨by (with_reducible repeat (first | apply Kd.R_alloc | apply Kd.R_drewN | apply Kd.R_drew)); exact HO_10.out⟩, ⟨by (with_reducible repeat (first | refine blk_drewN ?_ _ | refine blk_drew ?_ | refine blk_alloc ?_ _)); exact BK272.out⟩, ⟨by (with_reducible repeat (first | refine blk_drewN ?_ _ | refine blk_drew ?_ | refine blk_alloc ?_ _)); exact BK273.out⟩, ⟨by (with_reducible repeat (first | refine blk_drewN ?_ _ | refine blk_drew ?_ | refine blk_alloc ?_ _)); exact BK274.out⟩, ⟨by repeat (first | (with_reducible first | exact HB.out | apply below_alloc | apply pw_below_drewN | apply below_drew1 | refine below_set ?_ GE272.out | refine below_set ?_ GE273.out | refine below_set ?_ GE274.out) | exact HB.out)⟩⟩
          ·
           rw [if_neg c33] at H
           have c33b0 : (((rd_T59 t279 x11_2).f1) == ((rd_T59 t282 x11_2).f1)) = false := beq_eq_false_iff_ne.mpr c33
           have c33b1 : (((rd_T59 t279 x11_2).f1) != ((rd_T59 t282 x11_2).f1)) = true := bne_iff_ne.mpr c33
           replace H := Option.bind_eq_some_iff.mp H
           obtain ⟨t289, A370, H⟩ := H
           replace H : ((paroleref03_Join.f ((rd_T59 t282 x11_2).f0) ((rd_T59 t282 x11_2).f1)).bind fun t292 => (if t289 = t292 then (some ((rd_T59 t279 x11_2).f0, (rd_T59 t279 x11_2).f1, (rd_T59 t282 x11_2).f0, (rd_T59 t282 x11_2).f1, true)) else (paroleref04_Collide.l0 k2 t279 t282 (wrap64 (x11_2 + 1))))) = some (r1, r2, r3, r4, r5) := H
           have A37 := Aside0.mk A370
           clear A370
           replace H := Option.bind_eq_some_iff.mp H
           obtain ⟨t292, A380, H⟩ := H
           replace H : (if t289 = t292 then (some ((rd_T59 t279 x11_2).f0, (rd_T59 t279 x11_2).f1, (rd_T59 t282 x11_2).f0, (rd_T59 t282 x11_2).f1, true)) else (paroleref04_Collide.l0 k2 t279 t282 (wrap64 (x11_2 + 1)))) = some (r1, r2, r3, r4, r5) := H
           have A38 := Aside0.mk A380
           clear A380
           by_cases c39 : t289 = t292
           ·
            rw [if_pos c39] at H
            have c39b0 : (t289 == t292) = true := beq_iff_eq.mpr c39
            have c39b1 : (t289 != t292) = false := bne_eq_false_iff_eq.mpr c39
            clear c39
            simp only [Option.some.injEq, Prod.mk.injEq] at H
            obtain ⟨rfl, rfl, rfl, rfl, rfl⟩ := H
            obtain ⟨Ao40, co40, eo40⟩ := Kd.R_slice HO_9.out
            subst eo40
            try go_wp2
            have n0_ := Aside0.mk (Kd.R_drew HO_9.out)
            have n1_ := Aside0.mk (Kd.R_drew HO_10.out)
            have n2_ := Aside0.mk (blk_drew BK272.out)
            have n3_ := Aside0.mk (blk_drew BK273.out)
            have n4_ := Aside0.mk (blk_drew BK274.out)
            have n5_ := Aside0.mk (below_drew1 HB.out)
            clear HO_9
            clear HO_10
            clear BK272
            clear BK273
            clear BK274
            clear HB
            have HO_9 := n0_
            have HO_10 := n1_
            have BK272 := n2_
            have BK273 := n3_
            have BK274 := n4_
            have HB := n5_
            clear n0_ n1_ n2_ n3_ n4_ n5_
            have p285 : 0 ≤ (x11_2 : Int) := of_decide_eq_true (by first | (with_reducible assumption) | assumption)
            have q285 : x11_2 < (t279.length : Int) := of_decide_eq_true (by first | (with_reducible assumption) | assumption)
            obtain ⟨ad285, e285, hx285_0, hx285_1⟩ := at_T59 (Kd.R_reads' HO_9.out).2.2 x11_2 p285 q285
            cases e285
            replace p285 := eq_true p285
            replace q285 := eq_true q285
            obtain ⟨Ao42, co42, eo42⟩ := Kd.R_slice HO_10.out
            (first | subst eo42 | (injection eo42 with f1_ f2_ f3_; have f4_ := f1_.symm; have f5_ := f3_.symm; clear f1_ f2_ f3_; subst f4_; subst f5_))
            have p286 : 0 ≤ (x11_2 : Int) := of_decide_eq_true (by first | (with_reducible assumption) | assumption)
            have q286 : x11_2 < (t282.length : Int) := of_decide_eq_true (by first | (with_reducible assumption) | assumption)
            obtain ⟨ad286, e286, hx286_0, hx286_1⟩ := at_T59 (Kd.R_reads' HO_10.out).2.2 x11_2 p286 q286
            cases e286
            replace p286 := eq_true p286
            replace q286 := eq_true q286
            have p287 : 0 ≤ (x11_2 : Int) := of_decide_eq_true (by first | (with_reducible assumption) | assumption)
            have q287 : x11_2 < (t279.length : Int) := of_decide_eq_true (by first | (with_reducible assumption) | assumption)
            obtain ⟨ad287, e287, hx287_0, hx287_1⟩ := at_T59 (Kd.R_reads' HO_9.out).2.2 x11_2 p287 q287
            obtain rfl : ad285 = ad287 := (by injection e287)
            replace p287 := eq_true p287
            replace q287 := eq_true q287
            have p288 : 0 ≤ (x11_2 : Int) := of_decide_eq_true (by first | (with_reducible assumption) | assumption)
            have q288 : x11_2 < (t279.length : Int) := of_decide_eq_true (by first | (with_reducible assumption) | assumption)
            obtain ⟨ad288, e288, hx288_0, hx288_1⟩ := at_T59 (Kd.R_reads' HO_9.out).2.2 x11_2 p288 q288
            obtain rfl : ad285 = ad288 := (by injection e288)
            replace p288 := eq_true p288
            replace q288 := eq_true q288
            have p290 : 0 ≤ (x11_2 : Int) := of_decide_eq_true (by first | (with_reducible assumption) | assumption)
            have q290 : x11_2 < (t282.length : Int) := of_decide_eq_true (by first | (with_reducible assumption) | assumption)
            obtain ⟨ad290, e290, hx290_0, hx290_1⟩ := at_T59 (Kd.R_reads' HO_10.out).2.2 x11_2 p290 q290
            obtain rfl : ad286 = ad290 := (by injection e290)
            replace p290 := eq_true p290
            replace q290 := eq_true q290
            have p291 : 0 ≤ (x11_2 : Int) := of_decide_eq_true (by first | (with_reducible assumption) | assumption)
            have q291 : x11_2 < (t282.length : Int) := of_decide_eq_true (by first | (with_reducible assumption) | assumption)
            obtain ⟨ad291, e291, hx291_0, hx291_1⟩ := at_T59 (Kd.R_reads' HO_10.out).2.2 x11_2 p291 q291
            obtain rfl : ad286 = ad291 := (by injection e291)
            replace p291 := eq_true p291
            replace q291 := eq_true q291
            refine start_ (n := 34) (S := fun w' => w'.cell? (ad285.add ((x11_2).toNat * 2)) = some (.int .u64 ((rd_T59 t279 x11_2).f0)) ∧ w'.cell? ⟨(ad285.add ((x11_2).toNat * 2)).block, (ad285.add ((x11_2).toNat * 2)).off + 1, none⟩ = some (.int .u64 ((rd_T59 t279 x11_2).f1)) ∧ w'.cell? (ad286.add ((x11_2).toNat * 2)) = some (.int .u64 ((rd_T59 t282 x11_2).f0)) ∧ w'.cell? ⟨(ad286.add ((x11_2).toNat * 2)).block, (ad286.add ((x11_2).toNat * 2)).off + 1, none⟩ = some (.int .u64 ((rd_T59 t282 x11_2).f1)) ∧ w'.cell? (ad285.add ((x11_2).toNat * 2)) = some (.int .u64 ((rd_T59 t279 x11_2).f0)) ∧ w'.cell? ⟨(ad285.add ((x11_2).toNat * 2)).block, (ad285.add ((x11_2).toNat * 2)).off + 1, none⟩ = some (.int .u64 ((rd_T59 t279 x11_2).f1)) ∧ w'.cell? (ad285.add ((x11_2).toNat * 2)) = some (.int .u64 ((rd_T59 t279 x11_2).f0)) ∧ w'.cell? ⟨(ad285.add ((x11_2).toNat * 2)).block, (ad285.add ((x11_2).toNat * 2)).off + 1, none⟩ = some (.int .u64 ((rd_T59 t279 x11_2).f1)) ∧ w'.cell? (ad286.add ((x11_2).toNat * 2)) = some (.int .u64 ((rd_T59 t282 x11_2).f0)) ∧ w'.cell? ⟨(ad286.add ((x11_2).toNat * 2)).block, (ad286.add ((x11_2).toNat * 2)).off + 1, none⟩ = some (.int .u64 ((rd_T59 t282 x11_2).f1)) ∧ w'.cell? (ad286.add ((x11_2).toNat * 2)) = some (.int .u64 ((rd_T59 t282 x11_2).f0)) ∧ w'.cell? ⟨(ad286.add ((x11_2).toNat * 2)).block, (ad286.add ((x11_2).toNat * 2)).off + 1, none⟩ = some (.int .u64 ((rd_T59 t282 x11_2).f1))) (ds := []) #[false, false, false, false, false, false, false, false, false, false, false, false, false, false, false, false, false, false, false, false, false, false, false, false, false, false, false, false, false, false, false, false, false, false] (by kernel_rfl) rfl rfl ⟨hx285_0, hx285_1, hx286_0, hx286_1, hx287_0, hx287_1, hx288_0, hx288_1, hx290_0, hx290_1, hx291_0, hx291_1⟩ (fun hHeld => ?_); refine with_tabW paroleref04_Collide.tab7 paroleref04_Collide.bits7 (fun HT_ HW_ => ?_)
            generalize wr.drew = w41 at HO_9 HO_10 BK272 BK273 BK274 HB hx285_0 hx285_1 hx286_0 hx286_1 hx287_0 hx287_1 hx288_0 hx288_1 hx290_0 hx290_1 hx291_0 hx291_1 hHeld ⊢
            refine pure_ (i := 0) (N := some 50) (v := ?_) (a' := ?_) (bl_41 34 1) rfl rfl (any_of HT_.out (by kernel_rfl)) (fun _ _ _ h => h) (Or.inl ⟨by rfl, ?_⟩) ?_ ?_; rotate_left; (· intro w'; go_simp; with_reducible rfl); rotate_left; (· simp only [Act.put, setIfInBounds_toArray, set_cons_zero, set_cons_succ, i64_w, i32_w]; rfl)
            refine pure_ (i := 1) (N := some 51) (v := ?_) (a' := ?_) (bl_41 34 3) rfl rfl (any_of HT_.out (by kernel_rfl)) (fun _ _ _ h => h) (Or.inl ⟨by rfl, ?_⟩) ?_ ?_; rotate_left; (· intro w'; go_simp; with_reducible rfl); rotate_left; (· simp only [Act.put, setIfInBounds_toArray, set_cons_zero, set_cons_succ, i64_w, i32_w]; rfl)
            refine pure_ (i := 2) (N := some 52) (v := ?_) (a' := ?_) (bl_41 34 7) rfl rfl (any_of HT_.out (by kernel_rfl)) (fun _ _ _ h => h) (Or.inl ⟨by rfl, ?_⟩) ?_ ?_; rotate_left; (· intro w'; go_simp; with_reducible rfl); rotate_left; (· simp only [Act.put, setIfInBounds_toArray, set_cons_zero, set_cons_succ, i64_w, i32_w]; rfl)
            refine pure_ (i := 4) (N := some 54) (v := ?_) (a' := ?_) (bl_41 34 23) rfl rfl (any_of HT_.out (by kernel_rfl)) (fun _ _ _ h => h) (Or.inl ⟨by rfl, ?_⟩) ?_ ?_; rotate_left; (· intro w'; go_simp; with_reducible rfl); rotate_left; (· simp only [Act.put, setIfInBounds_toArray, set_cons_zero, set_cons_succ, i64_w, i32_w]; rfl)
            refine pure_ (i := 5) (N := some 55) (v := ?_) (a' := ?_) (bl_41 34 55) rfl rfl (any_of HT_.out (by kernel_rfl)) (fun _ _ _ h => h) (Or.inl ⟨by rfl, ?_⟩) ?_ ?_; rotate_left; (· intro w'; go_simp; with_reducible rfl); rotate_left; (· simp only [Act.put, setIfInBounds_toArray, set_cons_zero, set_cons_succ, i64_w, i32_w]; rfl)
            refine pure_ (i := 6) (N := some 56) (v := ?_) (a' := ?_) (bl_41 34 119) rfl rfl (any_of HT_.out (by kernel_rfl)) (fun _ _ _ h => h) (Or.inl ⟨by rfl, ?_⟩) ?_ ?_; rotate_left; (· intro w'; go_simp; with_reducible rfl); rotate_left; (· simp only [Act.put, setIfInBounds_toArray, set_cons_zero, set_cons_succ, i64_w, i32_w]; rfl)
            refine take_ (i := 3) (N := some 53) (v := ?_) (a' := ?_) (bl_41 34 127) rfl rfl (take_ofW HT_.out HW_.out (by kernel_rfl)) (fun _ _ _ h => h) (Or.inl ⟨by rfl, ?_⟩) hHeld ?_ ?_; rotate_left; (· rintro w' ⟨s0, s1, s2, s3, s4, s5, s6, s7, s8, s9, s10, s11⟩; go_simp; with_reducible rfl); rotate_left; (· simp only [Act.put, setIfInBounds_toArray, set_cons_zero, set_cons_succ, i64_w, i32_w]; rfl)
            refine take_ (i := 7) (N := some 57) (v := ?_) (a' := ?_) (bl_41 34 255) rfl rfl (take_ofW HT_.out HW_.out (by kernel_rfl)) (fun _ _ _ h => h) (Or.inl ⟨by rfl, ?_⟩) hHeld ?_ ?_; rotate_left; (· rintro w' ⟨s0, s1, s2, s3, s4, s5, s6, s7, s8, s9, s10, s11⟩; go_simp; with_reducible rfl); rotate_left; (· simp only [Act.put, setIfInBounds_toArray, set_cons_zero, set_cons_succ, i64_w, i32_w]; rfl)
            refine pure_ (i := 8) (N := some 58) (v := ?_) (a' := ?_) (bl_41 34 511) rfl rfl (any_of HT_.out (by kernel_rfl)) (fun _ _ _ h => h) (Or.inl ⟨by rfl, ?_⟩) ?_ ?_; rotate_left; (· intro w'; go_simp; with_reducible rfl); rotate_left; (· simp only [Act.put, setIfInBounds_toArray, set_cons_zero, set_cons_succ, i64_w, i32_w]; rfl)
            refine pure_ (i := 9) (N := some 59) (v := ?_) (a' := ?_) (bl_41 34 1023) rfl rfl (any_of HT_.out (by kernel_rfl)) (fun _ _ _ h => h) (Or.inl ⟨by rfl, ?_⟩) ?_ ?_; rotate_left; (· intro w'; go_simp; with_reducible rfl); rotate_left; (· simp only [Act.put, setIfInBounds_toArray, set_cons_zero, set_cons_succ, i64_w, i32_w]; rfl)
            refine pure_ (i := 10) (N := some 60) (v := ?_) (a' := ?_) (bl_41 34 2047) rfl rfl (any_of HT_.out (by kernel_rfl)) (fun _ _ _ h => h) (Or.inl ⟨by rfl, ?_⟩) ?_ ?_; rotate_left; (· intro w'; go_simp; with_reducible rfl); rotate_left; (· simp only [Act.put, setIfInBounds_toArray, set_cons_zero, set_cons_succ, i64_w, i32_w]; rfl)
            refine pure_ (i := 11) (N := some 61) (v := ?_) (a' := ?_) (bl_41 34 4095) rfl rfl (any_of HT_.out (by kernel_rfl)) (fun _ _ _ h => h) (Or.inl ⟨by rfl, ?_⟩) ?_ ?_; rotate_left; (· intro w'; go_simp; with_reducible rfl); rotate_left; (· simp only [Act.put, setIfInBounds_toArray, set_cons_zero, set_cons_succ, i64_w, i32_w]; rfl)
            refine pure_ (i := 12) (N := some 62) (v := ?_) (a' := ?_) (bl_41 34 8191) rfl rfl (any_of HT_.out (by kernel_rfl)) (fun _ _ _ h => h) (Or.inl ⟨by rfl, ?_⟩) ?_ ?_; rotate_left; (· intro w'; go_simp; with_reducible rfl); rotate_left; (· simp only [Act.put, setIfInBounds_toArray, set_cons_zero, set_cons_succ, i64_w, i32_w]; rfl)
            refine pure_ (i := 13) (N := some 63) (v := ?_) (a' := ?_) (bl_41 34 16383) rfl rfl (any_of HT_.out (by kernel_rfl)) (fun _ _ _ h => h) (Or.inl ⟨by rfl, ?_⟩) ?_ ?_; rotate_left; (· intro w'; go_simp; with_reducible rfl); rotate_left; (· simp only [Act.put, setIfInBounds_toArray, set_cons_zero, set_cons_succ, i64_w, i32_w]; rfl)
            refine pure_ (i := 15) (N := some 65) (v := ?_) (a' := ?_) (bl_41 34 49151) rfl rfl (any_of HT_.out (by kernel_rfl)) (fun _ _ _ h => h) (Or.inl ⟨by rfl, ?_⟩) ?_ ?_; rotate_left; (· intro w'; go_simp; with_reducible rfl); rotate_left; (· simp only [Act.put, setIfInBounds_toArray, set_cons_zero, set_cons_succ, i64_w, i32_w]; rfl)
            refine pure_ (i := 16) (N := some 66) (v := ?_) (a' := ?_) (bl_41 34 114687) rfl rfl (any_of HT_.out (by kernel_rfl)) (fun _ _ _ h => h) (Or.inl ⟨by rfl, ?_⟩) ?_ ?_; rotate_left; (· intro w'; go_simp; with_reducible rfl); rotate_left; (· simp only [Act.put, setIfInBounds_toArray, set_cons_zero, set_cons_succ, i64_w, i32_w]; rfl)
            refine pure_ (i := 17) (N := some 67) (v := ?_) (a' := ?_) (bl_41 34 245759) rfl rfl (any_of HT_.out (by kernel_rfl)) (fun _ _ _ h => h) (Or.inl ⟨by rfl, ?_⟩) ?_ ?_; rotate_left; (· intro w'; go_simp; with_reducible rfl); rotate_left; (· simp only [Act.put, setIfInBounds_toArray, set_cons_zero, set_cons_succ, i64_w, i32_w]; rfl)
            refine pure_ (i := 18) (N := some 68) (v := ?_) (a' := ?_) (bl_41 34 507903) rfl rfl (any_of HT_.out (by kernel_rfl)) (fun _ _ _ h => h) (Or.inl ⟨by rfl, ?_⟩) ?_ ?_; rotate_left; (· intro w'; go_simp; with_reducible rfl); rotate_left; (· simp only [Act.put, setIfInBounds_toArray, set_cons_zero, set_cons_succ, i64_w, i32_w]; rfl)
            refine pure_ (i := 21) (N := some 71) (v := ?_) (a' := ?_) (bl_41 34 2605055) rfl rfl (any_of HT_.out (by kernel_rfl)) (fun _ _ _ h => h) (Or.inl ⟨by rfl, ?_⟩) ?_ ?_; rotate_left; (· intro w'; go_simp; with_reducible rfl); rotate_left; (· simp only [Act.put, setIfInBounds_toArray, set_cons_zero, set_cons_succ, i64_w, i32_w]; rfl)
            refine pure_ (i := 22) (N := some 72) (v := ?_) (a' := ?_) (bl_41 34 6799359) rfl rfl (any_of HT_.out (by kernel_rfl)) (fun _ _ _ h => h) (Or.inl ⟨by rfl, ?_⟩) ?_ ?_; rotate_left; (· intro w'; go_simp; with_reducible rfl); rotate_left; (· simp only [Act.put, setIfInBounds_toArray, set_cons_zero, set_cons_succ, i64_w, i32_w]; rfl)
            refine pure_ (i := 23) (N := some 73) (v := ?_) (a' := ?_) (bl_41 34 15187967) rfl rfl (any_of HT_.out (by kernel_rfl)) (fun _ _ _ h => h) (Or.inl ⟨by rfl, ?_⟩) ?_ ?_; rotate_left; (· intro w'; go_simp; with_reducible rfl); rotate_left; (· simp only [Act.put, setIfInBounds_toArray, set_cons_zero, set_cons_succ, i64_w, i32_w]; rfl)
            refine pure_ (i := 24) (N := some 74) (v := ?_) (a' := ?_) (bl_41 34 31965183) rfl rfl (any_of HT_.out (by kernel_rfl)) (fun _ _ _ h => h) (Or.inl ⟨by rfl, ?_⟩) ?_ ?_; rotate_left; (· intro w'; go_simp; with_reducible rfl); rotate_left; (· simp only [Act.put, setIfInBounds_toArray, set_cons_zero, set_cons_succ, i64_w, i32_w]; rfl)
            refine pure_ (i := 26) (N := some 76) (v := ?_) (a' := ?_) (bl_41 34 99074047) rfl rfl (any_of HT_.out (by kernel_rfl)) (fun _ _ _ h => h) (Or.inl ⟨by rfl, ?_⟩) ?_ ?_; rotate_left; (· intro w'; go_simp; with_reducible rfl); rotate_left; (· simp only [Act.put, setIfInBounds_toArray, set_cons_zero, set_cons_succ, i64_w, i32_w]; rfl)
            refine pure_ (i := 27) (N := some 77) (v := ?_) (a' := ?_) (bl_41 34 233291775) rfl rfl (any_of HT_.out (by kernel_rfl)) (fun _ _ _ h => h) (Or.inl ⟨by rfl, ?_⟩) ?_ ?_; rotate_left; (· intro w'; go_simp; with_reducible rfl); rotate_left; (· simp only [Act.put, setIfInBounds_toArray, set_cons_zero, set_cons_succ, i64_w, i32_w]; rfl)
            refine pure_ (i := 28) (N := some 78) (v := ?_) (a' := ?_) (bl_41 34 501727231) rfl rfl (any_of HT_.out (by kernel_rfl)) (fun _ _ _ h => h) (Or.inl ⟨by rfl, ?_⟩) ?_ ?_; rotate_left; (· intro w'; go_simp; with_reducible rfl); rotate_left; (· simp only [Act.put, setIfInBounds_toArray, set_cons_zero, set_cons_succ, i64_w, i32_w]; rfl)
            refine pure_ (i := 29) (N := some 79) (v := ?_) (a' := ?_) (bl_41 34 1038598143) rfl rfl (any_of HT_.out (by kernel_rfl)) (fun _ _ _ h => h) (Or.inl ⟨by rfl, ?_⟩) ?_ ?_; rotate_left; (· intro w'; go_simp; with_reducible rfl); rotate_left; (· simp only [Act.put, setIfInBounds_toArray, set_cons_zero, set_cons_succ, i64_w, i32_w]; rfl)
            refine take_ (i := 14) (N := some 64) (v := ?_) (a' := ?_) (bl_41 34 1038614527) rfl rfl (take_ofW HT_.out HW_.out (by kernel_rfl)) (fun _ _ _ h => h) (Or.inl ⟨by rfl, ?_⟩) hHeld ?_ ?_; rotate_left; (· rintro w' ⟨s0, s1, s2, s3, s4, s5, s6, s7, s8, s9, s10, s11⟩; go_simp; with_reducible rfl); rotate_left; (· simp only [Act.put, setIfInBounds_toArray, set_cons_zero, set_cons_succ, i64_w, i32_w]; rfl)
            refine take_ (i := 19) (N := some 69) (v := ?_) (a' := ?_) (bl_41 34 1039138815) rfl rfl (take_ofW HT_.out HW_.out (by kernel_rfl)) (fun _ _ _ h => h) (Or.inl ⟨by rfl, ?_⟩) hHeld ?_ ?_; rotate_left; (· rintro w' ⟨s0, s1, s2, s3, s4, s5, s6, s7, s8, s9, s10, s11⟩; go_simp; with_reducible rfl); rotate_left; (· simp only [Act.put, setIfInBounds_toArray, set_cons_zero, set_cons_succ, i64_w, i32_w]; rfl)
            refine take_ (i := 25) (N := some 75) (v := ?_) (a' := ?_) (bl_41 34 1072693247) rfl rfl (take_ofW HT_.out HW_.out (by kernel_rfl)) (fun _ _ _ h => h) (Or.inl ⟨by rfl, ?_⟩) hHeld ?_ ?_; rotate_left; (· rintro w' ⟨s0, s1, s2, s3, s4, s5, s6, s7, s8, s9, s10, s11⟩; go_simp; with_reducible rfl); rotate_left; (· simp only [Act.put, setIfInBounds_toArray, set_cons_zero, set_cons_succ, i64_w, i32_w]; rfl)
            refine take_ (i := 30) (N := some 80) (v := ?_) (a' := ?_) (bl_41 34 2146435071) rfl rfl (take_ofW HT_.out HW_.out (by kernel_rfl)) (fun _ _ _ h => h) (Or.inl ⟨by rfl, ?_⟩) hHeld ?_ ?_; rotate_left; (· rintro w' ⟨s0, s1, s2, s3, s4, s5, s6, s7, s8, s9, s10, s11⟩; go_simp; with_reducible rfl); rotate_left; (· simp only [Act.put, setIfInBounds_toArray, set_cons_zero, set_cons_succ, i64_w, i32_w]; rfl)
            refine one_ (i := 20) (N := some 70) (bl_41 34 2147483647) rfl rfl (one_of HT_.out (by kernel_rfl)) (by decide) (fun K hK => ?_)
            refine goes_ Try.func26 (by kernel_rfl) rfl #[.int .u64 ((rd_T59 t279 x11_2).f0), .int .u64 ((rd_T59 t279 x11_2).f1)] (by rfl) rfl rfl (by (try simp only [map_toArray, map_cons, map_nil]); first | done | rfl) ?_
            with_reducible refine (paroleref03_Join.calls ((rd_T59 t279 x11_2).f0) ((rd_T59 t279 x11_2).f1) t289 _ A37.out).mono ?_
            rintro e w' ⟨rfl, ⟨nd, rfl⟩⟩
            refine ⟨_, rfl, ?_⟩
            refine hK.out _ _ ⟨hHeld.1, hHeld.2.1, hHeld.2.2.1, hHeld.2.2.2.1, hHeld.2.2.2.2.1, hHeld.2.2.2.2.2.1, hHeld.2.2.2.2.2.2.1, hHeld.2.2.2.2.2.2.2.1, hHeld.2.2.2.2.2.2.2.2.1, hHeld.2.2.2.2.2.2.2.2.2.1, hHeld.2.2.2.2.2.2.2.2.2.2.1, hHeld.2.2.2.2.2.2.2.2.2.2.2⟩ (fun hHeld => ?_)
            clear hK K
            refine norm_ (a' := ?_) ?_ ?_
            rotate_left
            ·
             show Act.put _ (some 70) _ = _
             simp only [Act.put, setIfInBounds_toArray, set_cons_zero, set_cons_succ, i64_w, i32_w]
             rfl
            refine one_ (i := 31) (N := some 81) (bl_41 34 4294967295) rfl rfl (one_of HT_.out (by kernel_rfl)) (by decide) (fun K hK => ?_)
            refine goes_ Try.func26 (by kernel_rfl) rfl #[.int .u64 ((rd_T59 t282 x11_2).f0), .int .u64 ((rd_T59 t282 x11_2).f1)] (by rfl) rfl rfl (by (try simp only [map_toArray, map_cons, map_nil]); first | done | rfl) ?_
            with_reducible refine (paroleref03_Join.calls ((rd_T59 t282 x11_2).f0) ((rd_T59 t282 x11_2).f1) t292 _ A38.out).mono ?_
            rintro e w' ⟨rfl, ⟨nd, rfl⟩⟩
            refine ⟨_, rfl, ?_⟩
            refine hK.out _ _ ⟨hHeld.1, hHeld.2.1, hHeld.2.2.1, hHeld.2.2.2.1, hHeld.2.2.2.2.1, hHeld.2.2.2.2.2.1, hHeld.2.2.2.2.2.2.1, hHeld.2.2.2.2.2.2.2.1, hHeld.2.2.2.2.2.2.2.2.1, hHeld.2.2.2.2.2.2.2.2.2.1, hHeld.2.2.2.2.2.2.2.2.2.2.1, hHeld.2.2.2.2.2.2.2.2.2.2.2⟩ (fun hHeld => ?_)
            clear hK K
            refine norm_ (a' := ?_) ?_ ?_
            rotate_left
            ·
             show Act.put _ (some 81) _ = _
             simp only [Act.put, setIfInBounds_toArray, set_cons_zero, set_cons_succ, i64_w, i32_w]
             rfl
            refine pure_ (i := 32) (N := some 82) (v := ?_) (a' := ?_) (bl_41 34 8589934591) rfl rfl (any_of HT_.out (by kernel_rfl)) (fun _ _ _ h => h) (Or.inl ⟨by rfl, ?_⟩) ?_ ?_; rotate_left; (· intro w'; go_simp; with_reducible rfl); rotate_left; (· simp only [Act.put, setIfInBounds_toArray, set_cons_zero, set_cons_succ, i64_w, i32_w]; rfl)
            refine pure_ (i := 33) (N := some 83) (v := ?_) (a' := ?_) (bl_41 34 17179869183) rfl rfl (any_of HT_.out (by kernel_rfl)) (fun _ _ _ h => h) (Or.inl ⟨by rfl, ?_⟩) ?_ ?_; rotate_left; (· intro w'; go_simp; with_reducible rfl); rotate_left; (· simp only [Act.put, setIfInBounds_toArray, set_cons_zero, set_cons_succ, i64_w, i32_w]; rfl)
            refine done_ (done_of HT_.out (by kernel_rfl)) ?_
            try go_wp2
            (try (rw [drewN_self w41]; generalize hq_ : World.drewN w41 _ = w41; have n0_ : Aside0 (Kd.R k59 59 w41 w.heap.size (fun k_ => some k_ ≠ (.slice (some ad285) t279.length co40 : Value).ownBlock) (.slice (some ad286) t282.length co42) t282) := ⟨by rw [← hq_]; exact (by (with_reducible repeat (first | apply Kd.R_alloc | apply Kd.R_drewN | apply Kd.R_drew)); exact HO_10.out)⟩; have n1_ : Aside0 (Kd.R k59 59 w41 w.heap.size (fun k_ => some k_ ≠ (.slice (some ad286) t282.length co42 : Value).ownBlock) (.slice (some ad285) t279.length co40) t279) := ⟨by rw [← hq_]; exact (by (with_reducible repeat (first | apply Kd.R_alloc | apply Kd.R_drewN | apply Kd.R_drew)); exact HO_9.out)⟩; have n2_ : Aside0 (w41.heap[gb272]? = some (.cells #[.int .u64 a2_0, .slice A2_1 l2_1.length c2_1] 50 (0, 0))) := ⟨by rw [← hq_]; exact (by (with_reducible repeat (first | refine blk_drewN ?_ _ | refine blk_drew ?_ | refine blk_alloc ?_ _)); exact BK272.out)⟩; have n3_ : Aside0 (w41.heap[gb273]? = some (.cells #[.int .u64 a3_0, .slice A3_1 l3_1.length c3_1] 50 (0, 0))) := ⟨by rw [← hq_]; exact (by (with_reducible repeat (first | refine blk_drewN ?_ _ | refine blk_drew ?_ | refine blk_alloc ?_ _)); exact BK273.out)⟩; have n4_ : Aside0 (w41.heap[gb274]? = some (.cells #[.int .u64 x275000_2, .int .u64 x275001_2, .int .u64 x275002_2, .int .u64 x275003_2, .bool x275004_2] 64 (0, 0))) := ⟨by rw [← hq_]; exact (by (with_reducible repeat (first | refine blk_drewN ?_ _ | refine blk_drew ?_ | refine blk_alloc ?_ _)); exact BK274.out)⟩; have n5_ : Aside0 (Below w.heap.size w w41) := ⟨by rw [← hq_]; exact (by repeat (first | (with_reducible first | exact HB.out | apply below_alloc | apply pw_below_drewN | apply below_drew1 | refine below_set ?_ GE272.out | refine below_set ?_ GE273.out | refine below_set ?_ GE274.out) | exact HB.out))⟩; clear HO_10 HO_9 BK272 BK273 BK274 HB hq_; have HO_10 := n0_; have HO_9 := n1_; have BK272 := n2_; have BK273 := n3_; have BK274 := n4_; have HB := n5_; clear n0_ n1_ n2_ n3_ n4_ n5_))
            have n0_ := Aside0.mk (Kd.R_drew HO_9.out)
            have n1_ := Aside0.mk (Kd.R_drew HO_10.out)
            have n2_ := Aside0.mk (blk_drew BK272.out)
            have n3_ := Aside0.mk (blk_drew BK273.out)
            have n4_ := Aside0.mk (blk_drew BK274.out)
            have n5_ := Aside0.mk (below_drew1 HB.out)
            clear HO_9
            clear HO_10
            clear BK272
            clear BK273
            clear BK274
            clear HB
            have HO_9 := n0_
            have HO_10 := n1_
            have BK272 := n2_
            have BK273 := n3_
            have BK274 := n4_
            have HB := n5_
            clear n0_ n1_ n2_ n3_ n4_ n5_
            have p293 : 0 ≤ (x11_2 : Int) := of_decide_eq_true (by first | (with_reducible assumption) | assumption)
            have q293 : x11_2 < (t279.length : Int) := of_decide_eq_true (by first | (with_reducible assumption) | assumption)
            obtain ⟨ad293, e293, hx293_0, hx293_1⟩ := at_T59 (Kd.R_reads' HO_9.out).2.2 x11_2 p293 q293
            obtain rfl : ad285 = ad293 := (by injection e293)
            replace p293 := eq_true p293
            replace q293 := eq_true q293
            have p294 : 0 ≤ (x11_2 : Int) := of_decide_eq_true (by first | (with_reducible assumption) | assumption)
            have q294 : x11_2 < (t282.length : Int) := of_decide_eq_true (by first | (with_reducible assumption) | assumption)
            obtain ⟨ad294, e294, hx294_0, hx294_1⟩ := at_T59 (Kd.R_reads' HO_10.out).2.2 x11_2 p294 q294
            obtain rfl : ad286 = ad294 := (by injection e294)
            replace p294 := eq_true p294
            replace q294 := eq_true q294
            refine start_ (n := 11) (S := fun w' => w'.cell? (ad285.add ((x11_2).toNat * 2)) = some (.int .u64 ((rd_T59 t279 x11_2).f0)) ∧ w'.cell? ⟨(ad285.add ((x11_2).toNat * 2)).block, (ad285.add ((x11_2).toNat * 2)).off + 1, none⟩ = some (.int .u64 ((rd_T59 t279 x11_2).f1)) ∧ w'.cell? (ad286.add ((x11_2).toNat * 2)) = some (.int .u64 ((rd_T59 t282 x11_2).f0)) ∧ w'.cell? ⟨(ad286.add ((x11_2).toNat * 2)).block, (ad286.add ((x11_2).toNat * 2)).off + 1, none⟩ = some (.int .u64 ((rd_T59 t282 x11_2).f1))) (ds := []) #[false, false, false, false, false, false, false, false, false, false, false] (by kernel_rfl) rfl rfl ⟨hx293_0, hx293_1, hx294_0, hx294_1⟩ (fun hHeld => ?_); refine with_tabW paroleref04_Collide.tab8 paroleref04_Collide.bits8 (fun HT_ HW_ => ?_)
            generalize w41.drew = w43 at HO_9 HO_10 BK272 BK273 BK274 HB hx293_0 hx293_1 hx294_0 hx294_1 hHeld ⊢
            refine pure_ (i := 0) (N := some 84) (v := ?_) (a' := ?_) (bl_41 11 1) rfl rfl (any_of HT_.out (by kernel_rfl)) (fun _ _ _ h => h) (Or.inl ⟨by rfl, ?_⟩) ?_ ?_; rotate_left; (· intro w'; go_simp; with_reducible rfl); rotate_left; (· simp only [Act.put, setIfInBounds_toArray, set_cons_zero, set_cons_succ, i64_w, i32_w]; rfl)
            refine pure_ (i := 1) (N := some 85) (v := ?_) (a' := ?_) (bl_41 11 3) rfl rfl (any_of HT_.out (by kernel_rfl)) (fun _ _ _ h => h) (Or.inl ⟨by rfl, ?_⟩) ?_ ?_; rotate_left; (· intro w'; go_simp; with_reducible rfl); rotate_left; (· simp only [Act.put, setIfInBounds_toArray, set_cons_zero, set_cons_succ, i64_w, i32_w]; rfl)
            refine pure_ (i := 2) (N := some 86) (v := ?_) (a' := ?_) (bl_41 11 7) rfl rfl (any_of HT_.out (by kernel_rfl)) (fun _ _ _ h => h) (Or.inl ⟨by rfl, ?_⟩) ?_ ?_; rotate_left; (· intro w'; go_simp; with_reducible rfl); rotate_left; (· simp only [Act.put, setIfInBounds_toArray, set_cons_zero, set_cons_succ, i64_w, i32_w]; rfl)
            refine pure_ (i := 4) (N := some 88) (v := ?_) (a' := ?_) (bl_41 11 23) rfl rfl (any_of HT_.out (by kernel_rfl)) (fun _ _ _ h => h) (Or.inl ⟨by rfl, ?_⟩) ?_ ?_; rotate_left; (· intro w'; go_simp; with_reducible rfl); rotate_left; (· simp only [Act.put, setIfInBounds_toArray, set_cons_zero, set_cons_succ, i64_w, i32_w]; rfl)
            refine pure_ (i := 5) (N := some 89) (v := ?_) (a' := ?_) (bl_41 11 55) rfl rfl (any_of HT_.out (by kernel_rfl)) (fun _ _ _ h => h) (Or.inl ⟨by rfl, ?_⟩) ?_ ?_; rotate_left; (· intro w'; go_simp; with_reducible rfl); rotate_left; (· simp only [Act.put, setIfInBounds_toArray, set_cons_zero, set_cons_succ, i64_w, i32_w]; rfl)
            refine pure_ (i := 6) (N := some 90) (v := ?_) (a' := ?_) (bl_41 11 119) rfl rfl (any_of HT_.out (by kernel_rfl)) (fun _ _ _ h => h) (Or.inl ⟨by rfl, ?_⟩) ?_ ?_; rotate_left; (· intro w'; go_simp; with_reducible rfl); rotate_left; (· simp only [Act.put, setIfInBounds_toArray, set_cons_zero, set_cons_succ, i64_w, i32_w]; rfl)
            refine take_ (i := 3) (N := some 87) (v := ?_) (a' := ?_) (bl_41 11 127) rfl rfl (take_ofW HT_.out HW_.out (by kernel_rfl)) (fun _ _ _ h => h) (Or.inl ⟨by rfl, ?_⟩) hHeld ?_ ?_; rotate_left; (· rintro w' ⟨s0, s1, s2, s3⟩; go_simp; with_reducible rfl); rotate_left; (· simp only [Act.put, setIfInBounds_toArray, set_cons_zero, set_cons_succ, i64_w, i32_w]; rfl)
            refine take_ (i := 7) (N := some 91) (v := ?_) (a' := ?_) (bl_41 11 255) rfl rfl (take_ofW HT_.out HW_.out (by kernel_rfl)) (fun _ _ _ h => h) (Or.inl ⟨by rfl, ?_⟩) hHeld ?_ ?_; rotate_left; (· rintro w' ⟨s0, s1, s2, s3⟩; go_simp; with_reducible rfl); rotate_left; (· simp only [Act.put, setIfInBounds_toArray, set_cons_zero, set_cons_succ, i64_w, i32_w]; rfl)
            refine pure_ (i := 8) (N := some 92) (v := ?_) (a' := ?_) (bl_41 11 511) rfl rfl (any_of HT_.out (by kernel_rfl)) (fun _ _ _ h => h) (Or.inl ⟨by rfl, ?_⟩) ?_ ?_; rotate_left; (· intro w'; go_simp; with_reducible rfl); rotate_left; (· simp only [Act.put, setIfInBounds_toArray, set_cons_zero, set_cons_succ, i64_w, i32_w]; rfl)
            refine pure_ (i := 9) (N := some 93) (v := ?_) (a' := ?_) (bl_41 11 1023) rfl rfl (any_of HT_.out (by kernel_rfl)) (fun _ _ _ h => h) (Or.inl ⟨by rfl, ?_⟩) ?_ ?_; rotate_left; (· intro w'; go_simp; with_reducible rfl); rotate_left; (· simp only [Act.put, setIfInBounds_toArray, set_cons_zero, set_cons_succ, i64_w, i32_w]; rfl)
            refine one_ (i := 10) (N := none) (bl_41 11 2047) rfl rfl (one_of HT_.out (by kernel_rfl)) (by decide) (fun K hK => ?_)
            have hs44 : w43.cell? ⟨gb274, 0, none⟩ = some (.int .u64 x275000_2) := (blk_cell BK274.out 0).trans rfl
            have hfs44 := blk_frozen BK274.out 0
            have hns44_0 := NB272_274.out
            have hns44_1 := NB273_274.out
            have hms44_0 := NB274_272.out
            have hms44_1 := NB274_273.out
            have hs45 : w43.cell? ⟨gb274, 1, none⟩ = some (.int .u64 x275001_2) := (blk_cell BK274.out 1).trans rfl
            have hfs45 := blk_frozen BK274.out 1
            have hns45_0 := NB272_274.out
            have hns45_1 := NB273_274.out
            have hms45_0 := NB274_272.out
            have hms45_1 := NB274_273.out
            have hs46 : w43.cell? ⟨gb274, 2, none⟩ = some (.int .u64 x275002_2) := (blk_cell BK274.out 2).trans rfl
            have hfs46 := blk_frozen BK274.out 2
            have hns46_0 := NB272_274.out
            have hns46_1 := NB273_274.out
            have hms46_0 := NB274_272.out
            have hms46_1 := NB274_273.out
            have hs47 : w43.cell? ⟨gb274, 3, none⟩ = some (.int .u64 x275003_2) := (blk_cell BK274.out 3).trans rfl
            have hfs47 := blk_frozen BK274.out 3
            have hns47_0 := NB272_274.out
            have hns47_1 := NB273_274.out
            have hms47_0 := NB274_272.out
            have hms47_1 := NB274_273.out
            have hs48 : w43.cell? ⟨gb274, 4, none⟩ = some (.bool x275004_2) := (blk_cell BK274.out 4).trans rfl
            have hfs48 := blk_frozen BK274.out 4
            have hns48_0 := NB272_274.out
            have hns48_1 := NB273_274.out
            have hms48_0 := NB274_272.out
            have hms48_1 := NB274_273.out
            refine skip_ (w1 := ?_) (by rfl) rfl ?_ ?_
            rotate_left
            ·
             go_simp
             rfl
            refine hK.out _ _ ⟨((cell_far (p := ⟨gb274, _, none⟩) (by first | exact Kd.own_blk (Kd.R_ne HO_9.out BK274.out (by decide)) | (rw [add_block]; exact Kd.own_blk (Kd.R_ne HO_9.out BK274.out (by decide))) | (show (Addr.add _ _).block ≠ _; rw [add_block]; exact Kd.own_blk (Kd.R_ne HO_9.out BK274.out (by decide))) | (dsimp only; exact Kd.own_blk (Kd.R_ne HO_9.out BK274.out (by decide)))) _).trans (((cell_far (p := ⟨gb274, _, none⟩) (by first | exact Kd.own_blk (Kd.R_ne HO_9.out BK274.out (by decide)) | (rw [add_block]; exact Kd.own_blk (Kd.R_ne HO_9.out BK274.out (by decide))) | (show (Addr.add _ _).block ≠ _; rw [add_block]; exact Kd.own_blk (Kd.R_ne HO_9.out BK274.out (by decide))) | (dsimp only; exact Kd.own_blk (Kd.R_ne HO_9.out BK274.out (by decide)))) _).trans (((cell_far (p := ⟨gb274, _, none⟩) (by first | exact Kd.own_blk (Kd.R_ne HO_9.out BK274.out (by decide)) | (rw [add_block]; exact Kd.own_blk (Kd.R_ne HO_9.out BK274.out (by decide))) | (show (Addr.add _ _).block ≠ _; rw [add_block]; exact Kd.own_blk (Kd.R_ne HO_9.out BK274.out (by decide))) | (dsimp only; exact Kd.own_blk (Kd.R_ne HO_9.out BK274.out (by decide)))) _).trans (((cell_far (p := ⟨gb274, _, none⟩) (by first | exact Kd.own_blk (Kd.R_ne HO_9.out BK274.out (by decide)) | (rw [add_block]; exact Kd.own_blk (Kd.R_ne HO_9.out BK274.out (by decide))) | (show (Addr.add _ _).block ≠ _; rw [add_block]; exact Kd.own_blk (Kd.R_ne HO_9.out BK274.out (by decide))) | (dsimp only; exact Kd.own_blk (Kd.R_ne HO_9.out BK274.out (by decide)))) _).trans (((cell_far (p := ⟨gb274, _, none⟩) (by first | exact Kd.own_blk (Kd.R_ne HO_9.out BK274.out (by decide)) | (rw [add_block]; exact Kd.own_blk (Kd.R_ne HO_9.out BK274.out (by decide))) | (show (Addr.add _ _).block ≠ _; rw [add_block]; exact Kd.own_blk (Kd.R_ne HO_9.out BK274.out (by decide))) | (dsimp only; exact Kd.own_blk (Kd.R_ne HO_9.out BK274.out (by decide)))) _).trans (hHeld.1)))))))))), ((cell_far (p := ⟨gb274, _, none⟩) (by first | exact Kd.own_blk (Kd.R_ne HO_9.out BK274.out (by decide)) | (rw [add_block]; exact Kd.own_blk (Kd.R_ne HO_9.out BK274.out (by decide))) | (show (Addr.add _ _).block ≠ _; rw [add_block]; exact Kd.own_blk (Kd.R_ne HO_9.out BK274.out (by decide))) | (dsimp only; exact Kd.own_blk (Kd.R_ne HO_9.out BK274.out (by decide)))) _).trans (((cell_far (p := ⟨gb274, _, none⟩) (by first | exact Kd.own_blk (Kd.R_ne HO_9.out BK274.out (by decide)) | (rw [add_block]; exact Kd.own_blk (Kd.R_ne HO_9.out BK274.out (by decide))) | (show (Addr.add _ _).block ≠ _; rw [add_block]; exact Kd.own_blk (Kd.R_ne HO_9.out BK274.out (by decide))) | (dsimp only; exact Kd.own_blk (Kd.R_ne HO_9.out BK274.out (by decide)))) _).trans (((cell_far (p := ⟨gb274, _, none⟩) (by first | exact Kd.own_blk (Kd.R_ne HO_9.out BK274.out (by decide)) | (rw [add_block]; exact Kd.own_blk (Kd.R_ne HO_9.out BK274.out (by decide))) | (show (Addr.add _ _).block ≠ _; rw [add_block]; exact Kd.own_blk (Kd.R_ne HO_9.out BK274.out (by decide))) | (dsimp only; exact Kd.own_blk (Kd.R_ne HO_9.out BK274.out (by decide)))) _).trans (((cell_far (p := ⟨gb274, _, none⟩) (by first | exact Kd.own_blk (Kd.R_ne HO_9.out BK274.out (by decide)) | (rw [add_block]; exact Kd.own_blk (Kd.R_ne HO_9.out BK274.out (by decide))) | (show (Addr.add _ _).block ≠ _; rw [add_block]; exact Kd.own_blk (Kd.R_ne HO_9.out BK274.out (by decide))) | (dsimp only; exact Kd.own_blk (Kd.R_ne HO_9.out BK274.out (by decide)))) _).trans (((cell_far (p := ⟨gb274, _, none⟩) (by first | exact Kd.own_blk (Kd.R_ne HO_9.out BK274.out (by decide)) | (rw [add_block]; exact Kd.own_blk (Kd.R_ne HO_9.out BK274.out (by decide))) | (show (Addr.add _ _).block ≠ _; rw [add_block]; exact Kd.own_blk (Kd.R_ne HO_9.out BK274.out (by decide))) | (dsimp only; exact Kd.own_blk (Kd.R_ne HO_9.out BK274.out (by decide)))) _).trans (hHeld.2.1)))))))))), ((cell_far (p := ⟨gb274, _, none⟩) (by first | exact Kd.own_blk (Kd.R_ne HO_10.out BK274.out (by decide)) | (rw [add_block]; exact Kd.own_blk (Kd.R_ne HO_10.out BK274.out (by decide))) | (show (Addr.add _ _).block ≠ _; rw [add_block]; exact Kd.own_blk (Kd.R_ne HO_10.out BK274.out (by decide))) | (dsimp only; exact Kd.own_blk (Kd.R_ne HO_10.out BK274.out (by decide)))) _).trans (((cell_far (p := ⟨gb274, _, none⟩) (by first | exact Kd.own_blk (Kd.R_ne HO_10.out BK274.out (by decide)) | (rw [add_block]; exact Kd.own_blk (Kd.R_ne HO_10.out BK274.out (by decide))) | (show (Addr.add _ _).block ≠ _; rw [add_block]; exact Kd.own_blk (Kd.R_ne HO_10.out BK274.out (by decide))) | (dsimp only; exact Kd.own_blk (Kd.R_ne HO_10.out BK274.out (by decide)))) _).trans (((cell_far (p := ⟨gb274, _, none⟩) (by first | exact Kd.own_blk (Kd.R_ne HO_10.out BK274.out (by decide)) | (rw [add_block]; exact Kd.own_blk (Kd.R_ne HO_10.out BK274.out (by decide))) | (show (Addr.add _ _).block ≠ _; rw [add_block]; exact Kd.own_blk (Kd.R_ne HO_10.out BK274.out (by decide))) | (dsimp only; exact Kd.own_blk (Kd.R_ne HO_10.out BK274.out (by decide)))) _).trans (((cell_far (p := ⟨gb274, _, none⟩) (by first | exact Kd.own_blk (Kd.R_ne HO_10.out BK274.out (by decide)) | (rw [add_block]; exact Kd.own_blk (Kd.R_ne HO_10.out BK274.out (by decide))) | (show (Addr.add _ _).block ≠ _; rw [add_block]; exact Kd.own_blk (Kd.R_ne HO_10.out BK274.out (by decide))) | (dsimp only; exact Kd.own_blk (Kd.R_ne HO_10.out BK274.out (by decide)))) _).trans (((cell_far (p := ⟨gb274, _, none⟩) (by first | exact Kd.own_blk (Kd.R_ne HO_10.out BK274.out (by decide)) | (rw [add_block]; exact Kd.own_blk (Kd.R_ne HO_10.out BK274.out (by decide))) | (show (Addr.add _ _).block ≠ _; rw [add_block]; exact Kd.own_blk (Kd.R_ne HO_10.out BK274.out (by decide))) | (dsimp only; exact Kd.own_blk (Kd.R_ne HO_10.out BK274.out (by decide)))) _).trans (hHeld.2.2.1)))))))))), ((cell_far (p := ⟨gb274, _, none⟩) (by first | exact Kd.own_blk (Kd.R_ne HO_10.out BK274.out (by decide)) | (rw [add_block]; exact Kd.own_blk (Kd.R_ne HO_10.out BK274.out (by decide))) | (show (Addr.add _ _).block ≠ _; rw [add_block]; exact Kd.own_blk (Kd.R_ne HO_10.out BK274.out (by decide))) | (dsimp only; exact Kd.own_blk (Kd.R_ne HO_10.out BK274.out (by decide)))) _).trans (((cell_far (p := ⟨gb274, _, none⟩) (by first | exact Kd.own_blk (Kd.R_ne HO_10.out BK274.out (by decide)) | (rw [add_block]; exact Kd.own_blk (Kd.R_ne HO_10.out BK274.out (by decide))) | (show (Addr.add _ _).block ≠ _; rw [add_block]; exact Kd.own_blk (Kd.R_ne HO_10.out BK274.out (by decide))) | (dsimp only; exact Kd.own_blk (Kd.R_ne HO_10.out BK274.out (by decide)))) _).trans (((cell_far (p := ⟨gb274, _, none⟩) (by first | exact Kd.own_blk (Kd.R_ne HO_10.out BK274.out (by decide)) | (rw [add_block]; exact Kd.own_blk (Kd.R_ne HO_10.out BK274.out (by decide))) | (show (Addr.add _ _).block ≠ _; rw [add_block]; exact Kd.own_blk (Kd.R_ne HO_10.out BK274.out (by decide))) | (dsimp only; exact Kd.own_blk (Kd.R_ne HO_10.out BK274.out (by decide)))) _).trans (((cell_far (p := ⟨gb274, _, none⟩) (by first | exact Kd.own_blk (Kd.R_ne HO_10.out BK274.out (by decide)) | (rw [add_block]; exact Kd.own_blk (Kd.R_ne HO_10.out BK274.out (by decide))) | (show (Addr.add _ _).block ≠ _; rw [add_block]; exact Kd.own_blk (Kd.R_ne HO_10.out BK274.out (by decide))) | (dsimp only; exact Kd.own_blk (Kd.R_ne HO_10.out BK274.out (by decide)))) _).trans (((cell_far (p := ⟨gb274, _, none⟩) (by first | exact Kd.own_blk (Kd.R_ne HO_10.out BK274.out (by decide)) | (rw [add_block]; exact Kd.own_blk (Kd.R_ne HO_10.out BK274.out (by decide))) | (show (Addr.add _ _).block ≠ _; rw [add_block]; exact Kd.own_blk (Kd.R_ne HO_10.out BK274.out (by decide))) | (dsimp only; exact Kd.own_blk (Kd.R_ne HO_10.out BK274.out (by decide)))) _).trans (hHeld.2.2.2))))))))))⟩ (fun hHeld => ?_)
            clear hK K
            refine done_ (done_of HT_.out (by kernel_rfl)) ?_
            try go_wp2
            refine bodyPost_ret (results_cell_row rfl _ _ gb274 64 #[.int .u64 ((rd_T59 t279 x11_2).f0), .int .u64 ((rd_T59 t279 x11_2).f1), .int .u64 ((rd_T59 t282 x11_2).f0), .int .u64 ((rd_T59 t282 x11_2).f1), .bool true] (0, 0) _ rfl (by (with_reducible repeat (first | refine blk_drewN ?_ _ | refine blk_drew ?_ | refine blk_alloc ?_ _)); refine blk_put (cs := #[.int .u64 ((rd_T59 t279 x11_2).f0), .int .u64 ((rd_T59 t279 x11_2).f1), .int .u64 ((rd_T59 t282 x11_2).f0), .int .u64 ((rd_T59 t282 x11_2).f1), .bool x275004_2]) ?_ 4 _ rfl; (with_reducible repeat (first | refine blk_drewN ?_ _ | refine blk_drew ?_ | refine blk_alloc ?_ _)); refine blk_put (cs := #[.int .u64 ((rd_T59 t279 x11_2).f0), .int .u64 ((rd_T59 t279 x11_2).f1), .int .u64 ((rd_T59 t282 x11_2).f0), .int .u64 x275003_2, .bool x275004_2]) ?_ 3 _ rfl; (with_reducible repeat (first | refine blk_drewN ?_ _ | refine blk_drew ?_ | refine blk_alloc ?_ _)); refine blk_put (cs := #[.int .u64 ((rd_T59 t279 x11_2).f0), .int .u64 ((rd_T59 t279 x11_2).f1), .int .u64 x275002_2, .int .u64 x275003_2, .bool x275004_2]) ?_ 2 _ rfl; (with_reducible repeat (first | refine blk_drewN ?_ _ | refine blk_drew ?_ | refine blk_alloc ?_ _)); refine blk_put (cs := #[.int .u64 ((rd_T59 t279 x11_2).f0), .int .u64 x275001_2, .int .u64 x275002_2, .int .u64 x275003_2, .bool x275004_2]) ?_ 1 _ rfl; (with_reducible repeat (first | refine blk_drewN ?_ _ | refine blk_drew ?_ | refine blk_alloc ?_ _)); refine blk_put (cs := #[.int .u64 x275000_2, .int .u64 x275001_2, .int .u64 x275002_2, .int .u64 x275003_2, .bool x275004_2]) ?_ 0 _ rfl; (with_reducible repeat (first | refine blk_drewN ?_ _ | refine blk_drew ?_ | refine blk_alloc ?_ _)); exact BK274.out) Try.underlying64 rfl (by kernel_rfl)) rfl ?_
            exact ⟨by first | rfl | (simp [errW_none, errW_some] <;> rfl) | (simp [*, errW_none, errW_some] <;> rfl), by repeat (first | (with_reducible first | exact HB.out | apply below_alloc | apply pw_below_drewN | apply below_drew1 | refine below_set ?_ GE272.out | refine below_set ?_ GE273.out | refine below_set ?_ GE274.out) | exact HB.out)⟩
           ·
            rw [if_neg c39] at H
            have c39b0 : (t289 == t292) = false := beq_eq_false_iff_ne.mpr c39
            have c39b1 : (t289 != t292) = true := bne_iff_ne.mpr c39
            have H' := Aside0.mk H
            clear H
            obtain ⟨Ao49, co49, eo49⟩ := Kd.R_slice HO_9.out
            subst eo49
            try go_wp2
            have n0_ := Aside0.mk (Kd.R_drew HO_9.out)
            have n1_ := Aside0.mk (Kd.R_drew HO_10.out)
            have n2_ := Aside0.mk (blk_drew BK272.out)
            have n3_ := Aside0.mk (blk_drew BK273.out)
            have n4_ := Aside0.mk (blk_drew BK274.out)
            have n5_ := Aside0.mk (below_drew1 HB.out)
            clear HO_9
            clear HO_10
            clear BK272
            clear BK273
            clear BK274
            clear HB
            have HO_9 := n0_
            have HO_10 := n1_
            have BK272 := n2_
            have BK273 := n3_
            have BK274 := n4_
            have HB := n5_
            clear n0_ n1_ n2_ n3_ n4_ n5_
            have p285 : 0 ≤ (x11_2 : Int) := of_decide_eq_true (by first | (with_reducible assumption) | assumption)
            have q285 : x11_2 < (t279.length : Int) := of_decide_eq_true (by first | (with_reducible assumption) | assumption)
            obtain ⟨ad285, e285, hx285_0, hx285_1⟩ := at_T59 (Kd.R_reads' HO_9.out).2.2 x11_2 p285 q285
            cases e285
            replace p285 := eq_true p285
            replace q285 := eq_true q285
            obtain ⟨Ao51, co51, eo51⟩ := Kd.R_slice HO_10.out
            (first | subst eo51 | (injection eo51 with f1_ f2_ f3_; have f4_ := f1_.symm; have f5_ := f3_.symm; clear f1_ f2_ f3_; subst f4_; subst f5_))
            have p286 : 0 ≤ (x11_2 : Int) := of_decide_eq_true (by first | (with_reducible assumption) | assumption)
            have q286 : x11_2 < (t282.length : Int) := of_decide_eq_true (by first | (with_reducible assumption) | assumption)
            obtain ⟨ad286, e286, hx286_0, hx286_1⟩ := at_T59 (Kd.R_reads' HO_10.out).2.2 x11_2 p286 q286
            cases e286
            replace p286 := eq_true p286
            replace q286 := eq_true q286
            have p287 : 0 ≤ (x11_2 : Int) := of_decide_eq_true (by first | (with_reducible assumption) | assumption)
            have q287 : x11_2 < (t279.length : Int) := of_decide_eq_true (by first | (with_reducible assumption) | assumption)
            obtain ⟨ad287, e287, hx287_0, hx287_1⟩ := at_T59 (Kd.R_reads' HO_9.out).2.2 x11_2 p287 q287
            obtain rfl : ad285 = ad287 := (by injection e287)
            replace p287 := eq_true p287
            replace q287 := eq_true q287
            have p288 : 0 ≤ (x11_2 : Int) := of_decide_eq_true (by first | (with_reducible assumption) | assumption)
            have q288 : x11_2 < (t279.length : Int) := of_decide_eq_true (by first | (with_reducible assumption) | assumption)
            obtain ⟨ad288, e288, hx288_0, hx288_1⟩ := at_T59 (Kd.R_reads' HO_9.out).2.2 x11_2 p288 q288
            obtain rfl : ad285 = ad288 := (by injection e288)
            replace p288 := eq_true p288
            replace q288 := eq_true q288
            have p290 : 0 ≤ (x11_2 : Int) := of_decide_eq_true (by first | (with_reducible assumption) | assumption)
            have q290 : x11_2 < (t282.length : Int) := of_decide_eq_true (by first | (with_reducible assumption) | assumption)
            obtain ⟨ad290, e290, hx290_0, hx290_1⟩ := at_T59 (Kd.R_reads' HO_10.out).2.2 x11_2 p290 q290
            obtain rfl : ad286 = ad290 := (by injection e290)
            replace p290 := eq_true p290
            replace q290 := eq_true q290
            have p291 : 0 ≤ (x11_2 : Int) := of_decide_eq_true (by first | (with_reducible assumption) | assumption)
            have q291 : x11_2 < (t282.length : Int) := of_decide_eq_true (by first | (with_reducible assumption) | assumption)
            obtain ⟨ad291, e291, hx291_0, hx291_1⟩ := at_T59 (Kd.R_reads' HO_10.out).2.2 x11_2 p291 q291
            obtain rfl : ad286 = ad291 := (by injection e291)
            replace p291 := eq_true p291
            replace q291 := eq_true q291
            refine start_ (n := 34) (S := fun w' => w'.cell? (ad285.add ((x11_2).toNat * 2)) = some (.int .u64 ((rd_T59 t279 x11_2).f0)) ∧ w'.cell? ⟨(ad285.add ((x11_2).toNat * 2)).block, (ad285.add ((x11_2).toNat * 2)).off + 1, none⟩ = some (.int .u64 ((rd_T59 t279 x11_2).f1)) ∧ w'.cell? (ad286.add ((x11_2).toNat * 2)) = some (.int .u64 ((rd_T59 t282 x11_2).f0)) ∧ w'.cell? ⟨(ad286.add ((x11_2).toNat * 2)).block, (ad286.add ((x11_2).toNat * 2)).off + 1, none⟩ = some (.int .u64 ((rd_T59 t282 x11_2).f1)) ∧ w'.cell? (ad285.add ((x11_2).toNat * 2)) = some (.int .u64 ((rd_T59 t279 x11_2).f0)) ∧ w'.cell? ⟨(ad285.add ((x11_2).toNat * 2)).block, (ad285.add ((x11_2).toNat * 2)).off + 1, none⟩ = some (.int .u64 ((rd_T59 t279 x11_2).f1)) ∧ w'.cell? (ad285.add ((x11_2).toNat * 2)) = some (.int .u64 ((rd_T59 t279 x11_2).f0)) ∧ w'.cell? ⟨(ad285.add ((x11_2).toNat * 2)).block, (ad285.add ((x11_2).toNat * 2)).off + 1, none⟩ = some (.int .u64 ((rd_T59 t279 x11_2).f1)) ∧ w'.cell? (ad286.add ((x11_2).toNat * 2)) = some (.int .u64 ((rd_T59 t282 x11_2).f0)) ∧ w'.cell? ⟨(ad286.add ((x11_2).toNat * 2)).block, (ad286.add ((x11_2).toNat * 2)).off + 1, none⟩ = some (.int .u64 ((rd_T59 t282 x11_2).f1)) ∧ w'.cell? (ad286.add ((x11_2).toNat * 2)) = some (.int .u64 ((rd_T59 t282 x11_2).f0)) ∧ w'.cell? ⟨(ad286.add ((x11_2).toNat * 2)).block, (ad286.add ((x11_2).toNat * 2)).off + 1, none⟩ = some (.int .u64 ((rd_T59 t282 x11_2).f1))) (ds := []) #[false, false, false, false, false, false, false, false, false, false, false, false, false, false, false, false, false, false, false, false, false, false, false, false, false, false, false, false, false, false, false, false, false, false] (by kernel_rfl) rfl rfl ⟨hx285_0, hx285_1, hx286_0, hx286_1, hx287_0, hx287_1, hx288_0, hx288_1, hx290_0, hx290_1, hx291_0, hx291_1⟩ (fun hHeld => ?_); refine with_tabW paroleref04_Collide.tab7 paroleref04_Collide.bits7 (fun HT_ HW_ => ?_)
            generalize wr.drew = w50 at HO_9 HO_10 BK272 BK273 BK274 HB hx285_0 hx285_1 hx286_0 hx286_1 hx287_0 hx287_1 hx288_0 hx288_1 hx290_0 hx290_1 hx291_0 hx291_1 hHeld ⊢
            refine pure_ (i := 0) (N := some 50) (v := ?_) (a' := ?_) (bl_41 34 1) rfl rfl (any_of HT_.out (by kernel_rfl)) (fun _ _ _ h => h) (Or.inl ⟨by rfl, ?_⟩) ?_ ?_; rotate_left; (· intro w'; go_simp; with_reducible rfl); rotate_left; (· simp only [Act.put, setIfInBounds_toArray, set_cons_zero, set_cons_succ, i64_w, i32_w]; rfl)
            refine pure_ (i := 1) (N := some 51) (v := ?_) (a' := ?_) (bl_41 34 3) rfl rfl (any_of HT_.out (by kernel_rfl)) (fun _ _ _ h => h) (Or.inl ⟨by rfl, ?_⟩) ?_ ?_; rotate_left; (· intro w'; go_simp; with_reducible rfl); rotate_left; (· simp only [Act.put, setIfInBounds_toArray, set_cons_zero, set_cons_succ, i64_w, i32_w]; rfl)
            refine pure_ (i := 2) (N := some 52) (v := ?_) (a' := ?_) (bl_41 34 7) rfl rfl (any_of HT_.out (by kernel_rfl)) (fun _ _ _ h => h) (Or.inl ⟨by rfl, ?_⟩) ?_ ?_; rotate_left; (· intro w'; go_simp; with_reducible rfl); rotate_left; (· simp only [Act.put, setIfInBounds_toArray, set_cons_zero, set_cons_succ, i64_w, i32_w]; rfl)
            refine pure_ (i := 4) (N := some 54) (v := ?_) (a' := ?_) (bl_41 34 23) rfl rfl (any_of HT_.out (by kernel_rfl)) (fun _ _ _ h => h) (Or.inl ⟨by rfl, ?_⟩) ?_ ?_; rotate_left; (· intro w'; go_simp; with_reducible rfl); rotate_left; (· simp only [Act.put, setIfInBounds_toArray, set_cons_zero, set_cons_succ, i64_w, i32_w]; rfl)
            refine pure_ (i := 5) (N := some 55) (v := ?_) (a' := ?_) (bl_41 34 55) rfl rfl (any_of HT_.out (by kernel_rfl)) (fun _ _ _ h => h) (Or.inl ⟨by rfl, ?_⟩) ?_ ?_; rotate_left; (· intro w'; go_simp; with_reducible rfl); rotate_left; (· simp only [Act.put, setIfInBounds_toArray, set_cons_zero, set_cons_succ, i64_w, i32_w]; rfl)
            refine pure_ (i := 6) (N := some 56) (v := ?_) (a' := ?_) (bl_41 34 119) rfl rfl (any_of HT_.out (by kernel_rfl)) (fun _ _ _ h => h) (Or.inl ⟨by rfl, ?_⟩) ?_ ?_; rotate_left; (· intro w'; go_simp; with_reducible rfl); rotate_left; (· simp only [Act.put, setIfInBounds_toArray, set_cons_zero, set_cons_succ, i64_w, i32_w]; rfl)
            refine take_ (i := 3) (N := some 53) (v := ?_) (a' := ?_) (bl_41 34 127) rfl rfl (take_ofW HT_.out HW_.out (by kernel_rfl)) (fun _ _ _ h => h) (Or.inl ⟨by rfl, ?_⟩) hHeld ?_ ?_; rotate_left; (· rintro w' ⟨s0, s1, s2, s3, s4, s5, s6, s7, s8, s9, s10, s11⟩; go_simp; with_reducible rfl); rotate_left; (· simp only [Act.put, setIfInBounds_toArray, set_cons_zero, set_cons_succ, i64_w, i32_w]; rfl)
            refine take_ (i := 7) (N := some 57) (v := ?_) (a' := ?_) (bl_41 34 255) rfl rfl (take_ofW HT_.out HW_.out (by kernel_rfl)) (fun _ _ _ h => h) (Or.inl ⟨by rfl, ?_⟩) hHeld ?_ ?_; rotate_left; (· rintro w' ⟨s0, s1, s2, s3, s4, s5, s6, s7, s8, s9, s10, s11⟩; go_simp; with_reducible rfl); rotate_left; (· simp only [Act.put, setIfInBounds_toArray, set_cons_zero, set_cons_succ, i64_w, i32_w]; rfl)
            refine pure_ (i := 8) (N := some 58) (v := ?_) (a' := ?_) (bl_41 34 511) rfl rfl (any_of HT_.out (by kernel_rfl)) (fun _ _ _ h => h) (Or.inl ⟨by rfl, ?_⟩) ?_ ?_; rotate_left; (· intro w'; go_simp; with_reducible rfl); rotate_left; (· simp only [Act.put, setIfInBounds_toArray, set_cons_zero, set_cons_succ, i64_w, i32_w]; rfl)
            refine pure_ (i := 9) (N := some 59) (v := ?_) (a' := ?_) (bl_41 34 1023) rfl rfl (any_of HT_.out (by kernel_rfl)) (fun _ _ _ h => h) (Or.inl ⟨by rfl, ?_⟩) ?_ ?_; rotate_left; (· intro w'; go_simp; with_reducible rfl); rotate_left; (· simp only [Act.put, setIfInBounds_toArray, set_cons_zero, set_cons_succ, i64_w, i32_w]; rfl)
            refine pure_ (i := 10) (N := some 60) (v := ?_) (a' := ?_) (bl_41 34 2047) rfl rfl (any_of HT_.out (by kernel_rfl)) (fun _ _ _ h => h) (Or.inl ⟨by rfl, ?_⟩) ?_ ?_; rotate_left; (· intro w'; go_simp; with_reducible rfl); rotate_left; (· simp only [Act.put, setIfInBounds_toArray, set_cons_zero, set_cons_succ, i64_w, i32_w]; rfl)
            refine pure_ (i := 11) (N := some 61) (v := ?_) (a' := ?_) (bl_41 34 4095) rfl rfl (any_of HT_.out (by kernel_rfl)) (fun _ _ _ h => h) (Or.inl ⟨by rfl, ?_⟩) ?_ ?_; rotate_left; (· intro w'; go_simp; with_reducible rfl); rotate_left; (· simp only [Act.put, setIfInBounds_toArray, set_cons_zero, set_cons_succ, i64_w, i32_w]; rfl)
            refine pure_ (i := 12) (N := some 62) (v := ?_) (a' := ?_) (bl_41 34 8191) rfl rfl (any_of HT_.out (by kernel_rfl)) (fun _ _ _ h => h) (Or.inl ⟨by rfl, ?_⟩) ?_ ?_; rotate_left; (· intro w'; go_simp; with_reducible rfl); rotate_left; (· simp only [Act.put, setIfInBounds_toArray, set_cons_zero, set_cons_succ, i64_w, i32_w]; rfl)
            refine pure_ (i := 13) (N := some 63) (v := ?_) (a' := ?_) (bl_41 34 16383) rfl rfl (any_of HT_.out (by kernel_rfl)) (fun _ _ _ h => h) (Or.inl ⟨by rfl, ?_⟩) ?_ ?_; rotate_left; (· intro w'; go_simp; with_reducible rfl); rotate_left; (· simp only [Act.put, setIfInBounds_toArray, set_cons_zero, set_cons_succ, i64_w, i32_w]; rfl)
            refine pure_ (i := 15) (N := some 65) (v := ?_) (a' := ?_) (bl_41 34 49151) rfl rfl (any_of HT_.out (by kernel_rfl)) (fun _ _ _ h => h) (Or.inl ⟨by rfl, ?_⟩) ?_ ?_; rotate_left; (· intro w'; go_simp; with_reducible rfl); rotate_left; (· simp only [Act.put, setIfInBounds_toArray, set_cons_zero, set_cons_succ, i64_w, i32_w]; rfl)
            refine pure_ (i := 16) (N := some 66) (v := ?_) (a' := ?_) (bl_41 34 114687) rfl rfl (any_of HT_.out (by kernel_rfl)) (fun _ _ _ h => h) (Or.inl ⟨by rfl, ?_⟩) ?_ ?_; rotate_left; (· intro w'; go_simp; with_reducible rfl); rotate_left; (· simp only [Act.put, setIfInBounds_toArray, set_cons_zero, set_cons_succ, i64_w, i32_w]; rfl)
            refine pure_ (i := 17) (N := some 67) (v := ?_) (a' := ?_) (bl_41 34 245759) rfl rfl (any_of HT_.out (by kernel_rfl)) (fun _ _ _ h => h) (Or.inl ⟨by rfl, ?_⟩) ?_ ?_; rotate_left; (· intro w'; go_simp; with_reducible rfl); rotate_left; (· simp only [Act.put, setIfInBounds_toArray, set_cons_zero, set_cons_succ, i64_w, i32_w]; rfl)
            refine pure_ (i := 18) (N := some 68) (v := ?_) (a' := ?_) (bl_41 34 507903) rfl rfl (any_of HT_.out (by kernel_rfl)) (fun _ _ _ h => h) (Or.inl ⟨by rfl, ?_⟩) ?_ ?_; rotate_left; (· intro w'; go_simp; with_reducible rfl); rotate_left; (· simp only [Act.put, setIfInBounds_toArray, set_cons_zero, set_cons_succ, i64_w, i32_w]; rfl)
            refine pure_ (i := 21) (N := some 71) (v := ?_) (a' := ?_) (bl_41 34 2605055) rfl rfl (any_of HT_.out (by kernel_rfl)) (fun _ _ _ h => h) (Or.inl ⟨by rfl, ?_⟩) ?_ ?_; rotate_left; (· intro w'; go_simp; with_reducible rfl); rotate_left; (· simp only [Act.put, setIfInBounds_toArray, set_cons_zero, set_cons_succ, i64_w, i32_w]; rfl)
            refine pure_ (i := 22) (N := some 72) (v := ?_) (a' := ?_) (bl_41 34 6799359) rfl rfl (any_of HT_.out (by kernel_rfl)) (fun _ _ _ h => h) (Or.inl ⟨by rfl, ?_⟩) ?_ ?_; rotate_left; (· intro w'; go_simp; with_reducible rfl); rotate_left; (· simp only [Act.put, setIfInBounds_toArray, set_cons_zero, set_cons_succ, i64_w, i32_w]; rfl)
            refine pure_ (i := 23) (N := some 73) (v := ?_) (a' := ?_) (bl_41 34 15187967) rfl rfl (any_of HT_.out (by kernel_rfl)) (fun _ _ _ h => h) (Or.inl ⟨by rfl, ?_⟩) ?_ ?_; rotate_left; (· intro w'; go_simp; with_reducible rfl); rotate_left; (· simp only [Act.put, setIfInBounds_toArray, set_cons_zero, set_cons_succ, i64_w, i32_w]; rfl)
            refine pure_ (i := 24) (N := some 74) (v := ?_) (a' := ?_) (bl_41 34 31965183) rfl rfl (any_of HT_.out (by kernel_rfl)) (fun _ _ _ h => h) (Or.inl ⟨by rfl, ?_⟩) ?_ ?_; rotate_left; (· intro w'; go_simp; with_reducible rfl); rotate_left; (· simp only [Act.put, setIfInBounds_toArray, set_cons_zero, set_cons_succ, i64_w, i32_w]; rfl)
            refine pure_ (i := 26) (N := some 76) (v := ?_) (a' := ?_) (bl_41 34 99074047) rfl rfl (any_of HT_.out (by kernel_rfl)) (fun _ _ _ h => h) (Or.inl ⟨by rfl, ?_⟩) ?_ ?_; rotate_left; (· intro w'; go_simp; with_reducible rfl); rotate_left; (· simp only [Act.put, setIfInBounds_toArray, set_cons_zero, set_cons_succ, i64_w, i32_w]; rfl)
            refine pure_ (i := 27) (N := some 77) (v := ?_) (a' := ?_) (bl_41 34 233291775) rfl rfl (any_of HT_.out (by kernel_rfl)) (fun _ _ _ h => h) (Or.inl ⟨by rfl, ?_⟩) ?_ ?_; rotate_left; (· intro w'; go_simp; with_reducible rfl); rotate_left; (· simp only [Act.put, setIfInBounds_toArray, set_cons_zero, set_cons_succ, i64_w, i32_w]; rfl)
            refine pure_ (i := 28) (N := some 78) (v := ?_) (a' := ?_) (bl_41 34 501727231) rfl rfl (any_of HT_.out (by kernel_rfl)) (fun _ _ _ h => h) (Or.inl ⟨by rfl, ?_⟩) ?_ ?_; rotate_left; (· intro w'; go_simp; with_reducible rfl); rotate_left; (· simp only [Act.put, setIfInBounds_toArray, set_cons_zero, set_cons_succ, i64_w, i32_w]; rfl)
            refine pure_ (i := 29) (N := some 79) (v := ?_) (a' := ?_) (bl_41 34 1038598143) rfl rfl (any_of HT_.out (by kernel_rfl)) (fun _ _ _ h => h) (Or.inl ⟨by rfl, ?_⟩) ?_ ?_; rotate_left; (· intro w'; go_simp; with_reducible rfl); rotate_left; (· simp only [Act.put, setIfInBounds_toArray, set_cons_zero, set_cons_succ, i64_w, i32_w]; rfl)
            refine take_ (i := 14) (N := some 64) (v := ?_) (a' := ?_) (bl_41 34 1038614527) rfl rfl (take_ofW HT_.out HW_.out (by kernel_rfl)) (fun _ _ _ h => h) (Or.inl ⟨by rfl, ?_⟩) hHeld ?_ ?_; rotate_left; (· rintro w' ⟨s0, s1, s2, s3, s4, s5, s6, s7, s8, s9, s10, s11⟩; go_simp; with_reducible rfl); rotate_left; (· simp only [Act.put, setIfInBounds_toArray, set_cons_zero, set_cons_succ, i64_w, i32_w]; rfl)
            refine take_ (i := 19) (N := some 69) (v := ?_) (a' := ?_) (bl_41 34 1039138815) rfl rfl (take_ofW HT_.out HW_.out (by kernel_rfl)) (fun _ _ _ h => h) (Or.inl ⟨by rfl, ?_⟩) hHeld ?_ ?_; rotate_left; (· rintro w' ⟨s0, s1, s2, s3, s4, s5, s6, s7, s8, s9, s10, s11⟩; go_simp; with_reducible rfl); rotate_left; (· simp only [Act.put, setIfInBounds_toArray, set_cons_zero, set_cons_succ, i64_w, i32_w]; rfl)
            refine take_ (i := 25) (N := some 75) (v := ?_) (a' := ?_) (bl_41 34 1072693247) rfl rfl (take_ofW HT_.out HW_.out (by kernel_rfl)) (fun _ _ _ h => h) (Or.inl ⟨by rfl, ?_⟩) hHeld ?_ ?_; rotate_left; (· rintro w' ⟨s0, s1, s2, s3, s4, s5, s6, s7, s8, s9, s10, s11⟩; go_simp; with_reducible rfl); rotate_left; (· simp only [Act.put, setIfInBounds_toArray, set_cons_zero, set_cons_succ, i64_w, i32_w]; rfl)
            refine take_ (i := 30) (N := some 80) (v := ?_) (a' := ?_) (bl_41 34 2146435071) rfl rfl (take_ofW HT_.out HW_.out (by kernel_rfl)) (fun _ _ _ h => h) (Or.inl ⟨by rfl, ?_⟩) hHeld ?_ ?_; rotate_left; (· rintro w' ⟨s0, s1, s2, s3, s4, s5, s6, s7, s8, s9, s10, s11⟩; go_simp; with_reducible rfl); rotate_left; (· simp only [Act.put, setIfInBounds_toArray, set_cons_zero, set_cons_succ, i64_w, i32_w]; rfl)
            refine one_ (i := 20) (N := some 70) (bl_41 34 2147483647) rfl rfl (one_of HT_.out (by kernel_rfl)) (by decide) (fun K hK => ?_)
            refine goes_ Try.func26 (by kernel_rfl) rfl #[.int .u64 ((rd_T59 t279 x11_2).f0), .int .u64 ((rd_T59 t279 x11_2).f1)] (by rfl) rfl rfl (by (try simp only [map_toArray, map_cons, map_nil]); first | done | rfl) ?_
            with_reducible refine (paroleref03_Join.calls ((rd_T59 t279 x11_2).f0) ((rd_T59 t279 x11_2).f1) t289 _ A37.out).mono ?_
            rintro e w' ⟨rfl, ⟨nd, rfl⟩⟩
            refine ⟨_, rfl, ?_⟩
            refine hK.out _ _ ⟨hHeld.1, hHeld.2.1, hHeld.2.2.1, hHeld.2.2.2.1, hHeld.2.2.2.2.1, hHeld.2.2.2.2.2.1, hHeld.2.2.2.2.2.2.1, hHeld.2.2.2.2.2.2.2.1, hHeld.2.2.2.2.2.2.2.2.1, hHeld.2.2.2.2.2.2.2.2.2.1, hHeld.2.2.2.2.2.2.2.2.2.2.1, hHeld.2.2.2.2.2.2.2.2.2.2.2⟩ (fun hHeld => ?_)
            clear hK K
            refine norm_ (a' := ?_) ?_ ?_
            rotate_left
            ·
             show Act.put _ (some 70) _ = _
             simp only [Act.put, setIfInBounds_toArray, set_cons_zero, set_cons_succ, i64_w, i32_w]
             rfl
            refine one_ (i := 31) (N := some 81) (bl_41 34 4294967295) rfl rfl (one_of HT_.out (by kernel_rfl)) (by decide) (fun K hK => ?_)
            refine goes_ Try.func26 (by kernel_rfl) rfl #[.int .u64 ((rd_T59 t282 x11_2).f0), .int .u64 ((rd_T59 t282 x11_2).f1)] (by rfl) rfl rfl (by (try simp only [map_toArray, map_cons, map_nil]); first | done | rfl) ?_
            with_reducible refine (paroleref03_Join.calls ((rd_T59 t282 x11_2).f0) ((rd_T59 t282 x11_2).f1) t292 _ A38.out).mono ?_
            rintro e w' ⟨rfl, ⟨nd, rfl⟩⟩
            refine ⟨_, rfl, ?_⟩
            refine hK.out _ _ ⟨hHeld.1, hHeld.2.1, hHeld.2.2.1, hHeld.2.2.2.1, hHeld.2.2.2.2.1, hHeld.2.2.2.2.2.1, hHeld.2.2.2.2.2.2.1, hHeld.2.2.2.2.2.2.2.1, hHeld.2.2.2.2.2.2.2.2.1, hHeld.2.2.2.2.2.2.2.2.2.1, hHeld.2.2.2.2.2.2.2.2.2.2.1, hHeld.2.2.2.2.2.2.2.2.2.2.2⟩ (fun hHeld => ?_)
            clear hK K
            refine norm_ (a' := ?_) ?_ ?_
            rotate_left
            ·
             show Act.put _ (some 81) _ = _
             simp only [Act.put, setIfInBounds_toArray, set_cons_zero, set_cons_succ, i64_w, i32_w]
             rfl
            refine pure_ (i := 32) (N := some 82) (v := ?_) (a' := ?_) (bl_41 34 8589934591) rfl rfl (any_of HT_.out (by kernel_rfl)) (fun _ _ _ h => h) (Or.inl ⟨by rfl, ?_⟩) ?_ ?_; rotate_left; (· intro w'; go_simp; with_reducible rfl); rotate_left; (· simp only [Act.put, setIfInBounds_toArray, set_cons_zero, set_cons_succ, i64_w, i32_w]; rfl)
            refine pure_ (i := 33) (N := some 83) (v := ?_) (a' := ?_) (bl_41 34 17179869183) rfl rfl (any_of HT_.out (by kernel_rfl)) (fun _ _ _ h => h) (Or.inl ⟨by rfl, ?_⟩) ?_ ?_; rotate_left; (· intro w'; go_simp; with_reducible rfl); rotate_left; (· simp only [Act.put, setIfInBounds_toArray, set_cons_zero, set_cons_succ, i64_w, i32_w]; rfl)
            refine done_ (done_of HT_.out (by kernel_rfl)) ?_
            try go_wp2
            go_roundg k2
            case measure => have := HJ4.out; have := HK2.out; omega
            case rel => exact ⟨(wrap64 (x11_2 + 1)), (x275000_2), (x275001_2), (x275002_2), (x275003_2), (x275004_2), (by first | rfl | (simp; done) | (simp [*]; done)), H', ⟨by have := HJ4.out; have := HK2.out; omega⟩, ⟨by (with_reducible repeat (first | apply Kd.R_alloc | apply Kd.R_drewN | apply Kd.R_drew)); exact HO_9.out⟩, ⟨by (with_reducible repeat (first | apply Kd.R_alloc | apply Kd.R_drewN | apply Kd.R_drew)); exact HO_10.out⟩, ⟨by (with_reducible repeat (first | refine blk_drewN ?_ _ | refine blk_drew ?_ | refine blk_alloc ?_ _)); exact BK272.out⟩, ⟨by (with_reducible repeat (first | refine blk_drewN ?_ _ | refine blk_drew ?_ | refine blk_alloc ?_ _)); exact BK273.out⟩, ⟨by (with_reducible repeat (first | refine blk_drewN ?_ _ | refine blk_drew ?_ | refine blk_alloc ?_ _)); exact BK274.out⟩, ⟨by repeat (first | (with_reducible first | exact HB.out | apply below_alloc | apply pw_below_drewN | apply below_drew1 | refine below_set ?_ GE272.out | refine below_set ?_ GE273.out | refine below_set ?_ GE274.out) | exact HB.out)⟩⟩
         ·
          rw [if_neg c32] at H
          have c32b0 : (((rd_T59 t279 x11_2).f0) == ((rd_T59 t282 x11_2).f0)) = false := beq_eq_false_iff_ne.mpr c32
          have c32b1 : (((rd_T59 t279 x11_2).f0) != ((rd_T59 t282 x11_2).f0)) = true := bne_iff_ne.mpr c32
          replace H := Option.bind_eq_some_iff.mp H
          obtain ⟨t297, A520, H⟩ := H
          replace H : ((paroleref03_Join.f ((rd_T59 t282 x11_2).f0) ((rd_T59 t282 x11_2).f1)).bind fun t300 => (if t297 = t300 then (some ((rd_T59 t279 x11_2).f0, (rd_T59 t279 x11_2).f1, (rd_T59 t282 x11_2).f0, (rd_T59 t282 x11_2).f1, true)) else (paroleref04_Collide.l0 k2 t279 t282 (wrap64 (x11_2 + 1))))) = some (r1, r2, r3, r4, r5) := H
          have A52 := Aside0.mk A520
          clear A520
          replace H := Option.bind_eq_some_iff.mp H
          obtain ⟨t300, A530, H⟩ := H
          replace H : (if t297 = t300 then (some ((rd_T59 t279 x11_2).f0, (rd_T59 t279 x11_2).f1, (rd_T59 t282 x11_2).f0, (rd_T59 t282 x11_2).f1, true)) else (paroleref04_Collide.l0 k2 t279 t282 (wrap64 (x11_2 + 1)))) = some (r1, r2, r3, r4, r5) := H
          have A53 := Aside0.mk A530
          clear A530
          by_cases c54 : t297 = t300
          ·
           rw [if_pos c54] at H
           have c54b0 : (t297 == t300) = true := beq_iff_eq.mpr c54
           have c54b1 : (t297 != t300) = false := bne_eq_false_iff_eq.mpr c54
           clear c54
           simp only [Option.some.injEq, Prod.mk.injEq] at H
           obtain ⟨rfl, rfl, rfl, rfl, rfl⟩ := H
           obtain ⟨Ao55, co55, eo55⟩ := Kd.R_slice HO_9.out
           subst eo55
           try go_wp2
           have n0_ := Aside0.mk (Kd.R_drew HO_9.out)
           have n1_ := Aside0.mk (Kd.R_drew HO_10.out)
           have n2_ := Aside0.mk (blk_drew BK272.out)
           have n3_ := Aside0.mk (blk_drew BK273.out)
           have n4_ := Aside0.mk (blk_drew BK274.out)
           have n5_ := Aside0.mk (below_drew1 HB.out)
           clear HO_9
           clear HO_10
           clear BK272
           clear BK273
           clear BK274
           clear HB
           have HO_9 := n0_
           have HO_10 := n1_
           have BK272 := n2_
           have BK273 := n3_
           have BK274 := n4_
           have HB := n5_
           clear n0_ n1_ n2_ n3_ n4_ n5_
           have p285 : 0 ≤ (x11_2 : Int) := of_decide_eq_true (by first | (with_reducible assumption) | assumption)
           have q285 : x11_2 < (t279.length : Int) := of_decide_eq_true (by first | (with_reducible assumption) | assumption)
           obtain ⟨ad285, e285, hx285_0, hx285_1⟩ := at_T59 (Kd.R_reads' HO_9.out).2.2 x11_2 p285 q285
           cases e285
           replace p285 := eq_true p285
           replace q285 := eq_true q285
           obtain ⟨Ao57, co57, eo57⟩ := Kd.R_slice HO_10.out
           (first | subst eo57 | (injection eo57 with f1_ f2_ f3_; have f4_ := f1_.symm; have f5_ := f3_.symm; clear f1_ f2_ f3_; subst f4_; subst f5_))
           have p286 : 0 ≤ (x11_2 : Int) := of_decide_eq_true (by first | (with_reducible assumption) | assumption)
           have q286 : x11_2 < (t282.length : Int) := of_decide_eq_true (by first | (with_reducible assumption) | assumption)
           obtain ⟨ad286, e286, hx286_0, hx286_1⟩ := at_T59 (Kd.R_reads' HO_10.out).2.2 x11_2 p286 q286
           cases e286
           replace p286 := eq_true p286
           replace q286 := eq_true q286
           have p295 : 0 ≤ (x11_2 : Int) := of_decide_eq_true (by first | (with_reducible assumption) | assumption)
           have q295 : x11_2 < (t279.length : Int) := of_decide_eq_true (by first | (with_reducible assumption) | assumption)
           obtain ⟨ad295, e295, hx295_0, hx295_1⟩ := at_T59 (Kd.R_reads' HO_9.out).2.2 x11_2 p295 q295
           obtain rfl : ad285 = ad295 := (by injection e295)
           replace p295 := eq_true p295
           replace q295 := eq_true q295
           have p296 : 0 ≤ (x11_2 : Int) := of_decide_eq_true (by first | (with_reducible assumption) | assumption)
           have q296 : x11_2 < (t279.length : Int) := of_decide_eq_true (by first | (with_reducible assumption) | assumption)
           obtain ⟨ad296, e296, hx296_0, hx296_1⟩ := at_T59 (Kd.R_reads' HO_9.out).2.2 x11_2 p296 q296
           obtain rfl : ad285 = ad296 := (by injection e296)
           replace p296 := eq_true p296
           replace q296 := eq_true q296
           have p298 : 0 ≤ (x11_2 : Int) := of_decide_eq_true (by first | (with_reducible assumption) | assumption)
           have q298 : x11_2 < (t282.length : Int) := of_decide_eq_true (by first | (with_reducible assumption) | assumption)
           obtain ⟨ad298, e298, hx298_0, hx298_1⟩ := at_T59 (Kd.R_reads' HO_10.out).2.2 x11_2 p298 q298
           obtain rfl : ad286 = ad298 := (by injection e298)
           replace p298 := eq_true p298
           replace q298 := eq_true q298
           have p299 : 0 ≤ (x11_2 : Int) := of_decide_eq_true (by first | (with_reducible assumption) | assumption)
           have q299 : x11_2 < (t282.length : Int) := of_decide_eq_true (by first | (with_reducible assumption) | assumption)
           obtain ⟨ad299, e299, hx299_0, hx299_1⟩ := at_T59 (Kd.R_reads' HO_10.out).2.2 x11_2 p299 q299
           obtain rfl : ad286 = ad299 := (by injection e299)
           replace p299 := eq_true p299
           replace q299 := eq_true q299
           refine start_ (n := 34) (S := fun w' => w'.cell? (ad285.add ((x11_2).toNat * 2)) = some (.int .u64 ((rd_T59 t279 x11_2).f0)) ∧ w'.cell? ⟨(ad285.add ((x11_2).toNat * 2)).block, (ad285.add ((x11_2).toNat * 2)).off + 1, none⟩ = some (.int .u64 ((rd_T59 t279 x11_2).f1)) ∧ w'.cell? (ad286.add ((x11_2).toNat * 2)) = some (.int .u64 ((rd_T59 t282 x11_2).f0)) ∧ w'.cell? ⟨(ad286.add ((x11_2).toNat * 2)).block, (ad286.add ((x11_2).toNat * 2)).off + 1, none⟩ = some (.int .u64 ((rd_T59 t282 x11_2).f1)) ∧ w'.cell? (ad285.add ((x11_2).toNat * 2)) = some (.int .u64 ((rd_T59 t279 x11_2).f0)) ∧ w'.cell? ⟨(ad285.add ((x11_2).toNat * 2)).block, (ad285.add ((x11_2).toNat * 2)).off + 1, none⟩ = some (.int .u64 ((rd_T59 t279 x11_2).f1)) ∧ w'.cell? (ad285.add ((x11_2).toNat * 2)) = some (.int .u64 ((rd_T59 t279 x11_2).f0)) ∧ w'.cell? ⟨(ad285.add ((x11_2).toNat * 2)).block, (ad285.add ((x11_2).toNat * 2)).off + 1, none⟩ = some (.int .u64 ((rd_T59 t279 x11_2).f1)) ∧ w'.cell? (ad286.add ((x11_2).toNat * 2)) = some (.int .u64 ((rd_T59 t282 x11_2).f0)) ∧ w'.cell? ⟨(ad286.add ((x11_2).toNat * 2)).block, (ad286.add ((x11_2).toNat * 2)).off + 1, none⟩ = some (.int .u64 ((rd_T59 t282 x11_2).f1)) ∧ w'.cell? (ad286.add ((x11_2).toNat * 2)) = some (.int .u64 ((rd_T59 t282 x11_2).f0)) ∧ w'.cell? ⟨(ad286.add ((x11_2).toNat * 2)).block, (ad286.add ((x11_2).toNat * 2)).off + 1, none⟩ = some (.int .u64 ((rd_T59 t282 x11_2).f1))) (ds := []) #[false, false, false, false, false, false, false, false, false, false, false, false, false, false, false, false, false, false, false, false, false, false, false, false, false, false, false, false, false, false, false, false, false, false] (by kernel_rfl) rfl rfl ⟨hx285_0, hx285_1, hx286_0, hx286_1, hx295_0, hx295_1, hx296_0, hx296_1, hx298_0, hx298_1, hx299_0, hx299_1⟩ (fun hHeld => ?_); refine with_tabW paroleref04_Collide.tab7 paroleref04_Collide.bits7 (fun HT_ HW_ => ?_)
           generalize wr.drew = w56 at HO_9 HO_10 BK272 BK273 BK274 HB hx285_0 hx285_1 hx286_0 hx286_1 hx295_0 hx295_1 hx296_0 hx296_1 hx298_0 hx298_1 hx299_0 hx299_1 hHeld ⊢
           refine pure_ (i := 0) (N := some 50) (v := ?_) (a' := ?_) (bl_41 34 1) rfl rfl (any_of HT_.out (by kernel_rfl)) (fun _ _ _ h => h) (Or.inl ⟨by rfl, ?_⟩) ?_ ?_; rotate_left; (· intro w'; go_simp; with_reducible rfl); rotate_left; (· simp only [Act.put, setIfInBounds_toArray, set_cons_zero, set_cons_succ, i64_w, i32_w]; rfl)
           refine pure_ (i := 1) (N := some 51) (v := ?_) (a' := ?_) (bl_41 34 3) rfl rfl (any_of HT_.out (by kernel_rfl)) (fun _ _ _ h => h) (Or.inl ⟨by rfl, ?_⟩) ?_ ?_; rotate_left; (· intro w'; go_simp; with_reducible rfl); rotate_left; (· simp only [Act.put, setIfInBounds_toArray, set_cons_zero, set_cons_succ, i64_w, i32_w]; rfl)
           refine pure_ (i := 2) (N := some 52) (v := ?_) (a' := ?_) (bl_41 34 7) rfl rfl (any_of HT_.out (by kernel_rfl)) (fun _ _ _ h => h) (Or.inl ⟨by rfl, ?_⟩) ?_ ?_; rotate_left; (· intro w'; go_simp; with_reducible rfl); rotate_left; (· simp only [Act.put, setIfInBounds_toArray, set_cons_zero, set_cons_succ, i64_w, i32_w]; rfl)
           refine pure_ (i := 4) (N := some 54) (v := ?_) (a' := ?_) (bl_41 34 23) rfl rfl (any_of HT_.out (by kernel_rfl)) (fun _ _ _ h => h) (Or.inl ⟨by rfl, ?_⟩) ?_ ?_; rotate_left; (· intro w'; go_simp; with_reducible rfl); rotate_left; (· simp only [Act.put, setIfInBounds_toArray, set_cons_zero, set_cons_succ, i64_w, i32_w]; rfl)
           refine pure_ (i := 5) (N := some 55) (v := ?_) (a' := ?_) (bl_41 34 55) rfl rfl (any_of HT_.out (by kernel_rfl)) (fun _ _ _ h => h) (Or.inl ⟨by rfl, ?_⟩) ?_ ?_; rotate_left; (· intro w'; go_simp; with_reducible rfl); rotate_left; (· simp only [Act.put, setIfInBounds_toArray, set_cons_zero, set_cons_succ, i64_w, i32_w]; rfl)
           refine pure_ (i := 6) (N := some 56) (v := ?_) (a' := ?_) (bl_41 34 119) rfl rfl (any_of HT_.out (by kernel_rfl)) (fun _ _ _ h => h) (Or.inl ⟨by rfl, ?_⟩) ?_ ?_; rotate_left; (· intro w'; go_simp; with_reducible rfl); rotate_left; (· simp only [Act.put, setIfInBounds_toArray, set_cons_zero, set_cons_succ, i64_w, i32_w]; rfl)
           refine take_ (i := 3) (N := some 53) (v := ?_) (a' := ?_) (bl_41 34 127) rfl rfl (take_ofW HT_.out HW_.out (by kernel_rfl)) (fun _ _ _ h => h) (Or.inl ⟨by rfl, ?_⟩) hHeld ?_ ?_; rotate_left; (· rintro w' ⟨s0, s1, s2, s3, s4, s5, s6, s7, s8, s9, s10, s11⟩; go_simp; with_reducible rfl); rotate_left; (· simp only [Act.put, setIfInBounds_toArray, set_cons_zero, set_cons_succ, i64_w, i32_w]; rfl)
           refine take_ (i := 7) (N := some 57) (v := ?_) (a' := ?_) (bl_41 34 255) rfl rfl (take_ofW HT_.out HW_.out (by kernel_rfl)) (fun _ _ _ h => h) (Or.inl ⟨by rfl, ?_⟩) hHeld ?_ ?_; rotate_left; (· rintro w' ⟨s0, s1, s2, s3, s4, s5, s6, s7, s8, s9, s10, s11⟩; go_simp; with_reducible rfl); rotate_left; (· simp only [Act.put, setIfInBounds_toArray, set_cons_zero, set_cons_succ, i64_w, i32_w]; rfl)
           refine pure_ (i := 8) (N := some 58) (v := ?_) (a' := ?_) (bl_41 34 511) rfl rfl (any_of HT_.out (by kernel_rfl)) (fun _ _ _ h => h) (Or.inl ⟨by rfl, ?_⟩) ?_ ?_; rotate_left; (· intro w'; go_simp; with_reducible rfl); rotate_left; (· simp only [Act.put, setIfInBounds_toArray, set_cons_zero, set_cons_succ, i64_w, i32_w]; rfl)
           refine pure_ (i := 9) (N := some 59) (v := ?_) (a' := ?_) (bl_41 34 1023) rfl rfl (any_of HT_.out (by kernel_rfl)) (fun _ _ _ h => h) (Or.inl ⟨by rfl, ?_⟩) ?_ ?_; rotate_left; (· intro w'; go_simp; with_reducible rfl); rotate_left; (· simp only [Act.put, setIfInBounds_toArray, set_cons_zero, set_cons_succ, i64_w, i32_w]; rfl)
           refine pure_ (i := 10) (N := some 60) (v := ?_) (a' := ?_) (bl_41 34 2047) rfl rfl (any_of HT_.out (by kernel_rfl)) (fun _ _ _ h => h) (Or.inl ⟨by rfl, ?_⟩) ?_ ?_; rotate_left; (· intro w'; go_simp; with_reducible rfl); rotate_left; (· simp only [Act.put, setIfInBounds_toArray, set_cons_zero, set_cons_succ, i64_w, i32_w]; rfl)
           refine pure_ (i := 11) (N := some 61) (v := ?_) (a' := ?_) (bl_41 34 4095) rfl rfl (any_of HT_.out (by kernel_rfl)) (fun _ _ _ h => h) (Or.inl ⟨by rfl, ?_⟩) ?_ ?_; rotate_left; (· intro w'; go_simp; with_reducible rfl); rotate_left; (· simp only [Act.put, setIfInBounds_toArray, set_cons_zero, set_cons_succ, i64_w, i32_w]; rfl)
           refine pure_ (i := 12) (N := some 62) (v := ?_) (a' := ?_) (bl_41 34 8191) rfl rfl (any_of HT_.out (by kernel_rfl)) (fun _ _ _ h => h) (Or.inl ⟨by rfl, ?_⟩) ?_ ?_; rotate_left; (· intro w'; go_simp; with_reducible rfl); rotate_left; (· simp only [Act.put, setIfInBounds_toArray, set_cons_zero, set_cons_succ, i64_w, i32_w]; rfl)
           refine pure_ (i := 13) (N := some 63) (v := ?_) (a' := ?_) (bl_41 34 16383) rfl rfl (any_of HT_.out (by kernel_rfl)) (fun _ _ _ h => h) (Or.inl ⟨by rfl, ?_⟩) ?_ ?_; rotate_left; (· intro w'; go_simp; with_reducible rfl); rotate_left; (· simp only [Act.put, setIfInBounds_toArray, set_cons_zero, set_cons_succ, i64_w, i32_w]; rfl)
           refine pure_ (i := 15) (N := some 65) (v := ?_) (a' := ?_) (bl_41 34 49151) rfl rfl (any_of HT_.out (by kernel_rfl)) (fun _ _ _ h => h) (Or.inl ⟨by rfl, ?_⟩) ?_ ?_; rotate_left; (· intro w'; go_simp; with_reducible rfl); rotate_left; (· simp only [Act.put, setIfInBounds_toArray, set_cons_zero, set_cons_succ, i64_w, i32_w]; rfl)
           refine pure_ (i := 16) (N := some 66) (v := ?_) (a' := ?_) (bl_41 34 114687) rfl rfl (any_of HT_.out (by kernel_rfl)) (fun _ _ _ h => h) (Or.inl ⟨by rfl, ?_⟩) ?_ ?_; rotate_left; (· intro w'; go_simp; with_reducible rfl); rotate_left; (· simp only [Act.put, setIfInBounds_toArray, set_cons_zero, set_cons_succ, i64_w, i32_w]; rfl)
           refine pure_ (i := 17) (N := some 67) (v := ?_) (a' := ?_) (bl_41 34 245759) rfl rfl (any_of HT_.out (by kernel_rfl)) (fun _ _ _ h => h) (Or.inl ⟨by rfl, ?_⟩) ?_ ?_; rotate_left; (· intro w'; go_simp; with_reducible rfl); rotate_left; (· simp only [Act.put, setIfInBounds_toArray, set_cons_zero, set_cons_succ, i64_w, i32_w]; rfl)
           refine pure_ (i := 18) (N := some 68) (v := ?_) (a' := ?_) (bl_41 34 507903) rfl rfl (any_of HT_.out (by kernel_rfl)) (fun _ _ _ h => h) (Or.inl ⟨by rfl, ?_⟩) ?_ ?_; rotate_left; (· intro w'; go_simp; with_reducible rfl); rotate_left; (· simp only [Act.put, setIfInBounds_toArray, set_cons_zero, set_cons_succ, i64_w, i32_w]; rfl)
           refine pure_ (i := 21) (N := some 71) (v := ?_) (a' := ?_) (bl_41 34 2605055) rfl rfl (any_of HT_.out (by kernel_rfl)) (fun _ _ _ h => h) (Or.inl ⟨by rfl, ?_⟩) ?_ ?_; rotate_left; (· intro w'; go_simp; with_reducible rfl); rotate_left; (· simp only [Act.put, setIfInBounds_toArray, set_cons_zero, set_cons_succ, i64_w, i32_w]; rfl)
           refine pure_ (i := 22) (N := some 72) (v := ?_) (a' := ?_) (bl_41 34 6799359) rfl rfl (any_of HT_.out (by kernel_rfl)) (fun _ _ _ h => h) (Or.inl ⟨by rfl, ?_⟩) ?_ ?_; rotate_left; (· intro w'; go_simp; with_reducible rfl); rotate_left; (· simp only [Act.put, setIfInBounds_toArray, set_cons_zero, set_cons_succ, i64_w, i32_w]; rfl)
           refine pure_ (i := 23) (N := some 73) (v := ?_) (a' := ?_) (bl_41 34 15187967) rfl rfl (any_of HT_.out (by kernel_rfl)) (fun _ _ _ h => h) (Or.inl ⟨by rfl, ?_⟩) ?_ ?_; rotate_left; (· intro w'; go_simp; with_reducible rfl); rotate_left; (· simp only [Act.put, setIfInBounds_toArray, set_cons_zero, set_cons_succ, i64_w, i32_w]; rfl)
           refine pure_ (i := 24) (N := some 74) (v := ?_) (a' := ?_) (bl_41 34 31965183) rfl rfl (any_of HT_.out (by kernel_rfl)) (fun _ _ _ h => h) (Or.inl ⟨by rfl, ?_⟩) ?_ ?_; rotate_left; (· intro w'; go_simp; with_reducible rfl); rotate_left; (· simp only [Act.put, setIfInBounds_toArray, set_cons_zero, set_cons_succ, i64_w, i32_w]; rfl)
           refine pure_ (i := 26) (N := some 76) (v := ?_) (a' := ?_) (bl_41 34 99074047) rfl rfl (any_of HT_.out (by kernel_rfl)) (fun _ _ _ h => h) (Or.inl ⟨by rfl, ?_⟩) ?_ ?_; rotate_left; (· intro w'; go_simp; with_reducible rfl); rotate_left; (· simp only [Act.put, setIfInBounds_toArray, set_cons_zero, set_cons_succ, i64_w, i32_w]; rfl)
           refine pure_ (i := 27) (N := some 77) (v := ?_) (a' := ?_) (bl_41 34 233291775) rfl rfl (any_of HT_.out (by kernel_rfl)) (fun _ _ _ h => h) (Or.inl ⟨by rfl, ?_⟩) ?_ ?_; rotate_left; (· intro w'; go_simp; with_reducible rfl); rotate_left; (· simp only [Act.put, setIfInBounds_toArray, set_cons_zero, set_cons_succ, i64_w, i32_w]; rfl)
           refine pure_ (i := 28) (N := some 78) (v := ?_) (a' := ?_) (bl_41 34 501727231) rfl rfl (any_of HT_.out (by kernel_rfl)) (fun _ _ _ h => h) (Or.inl ⟨by rfl, ?_⟩) ?_ ?_; rotate_left; (· intro w'; go_simp; with_reducible rfl); rotate_left; (· simp only [Act.put, setIfInBounds_toArray, set_cons_zero, set_cons_succ, i64_w, i32_w]; rfl)
           refine pure_ (i := 29) (N := some 79) (v := ?_) (a' := ?_) (bl_41 34 1038598143) rfl rfl (any_of HT_.out (by kernel_rfl)) (fun _ _ _ h => h) (Or.inl ⟨by rfl, ?_⟩) ?_ ?_; rotate_left; (· intro w'; go_simp; with_reducible rfl); rotate_left; (· simp only [Act.put, setIfInBounds_toArray, set_cons_zero, set_cons_succ, i64_w, i32_w]; rfl)
           refine take_ (i := 14) (N := some 64) (v := ?_) (a' := ?_) (bl_41 34 1038614527) rfl rfl (take_ofW HT_.out HW_.out (by kernel_rfl)) (fun _ _ _ h => h) (Or.inl ⟨by rfl, ?_⟩) hHeld ?_ ?_; rotate_left; (· rintro w' ⟨s0, s1, s2, s3, s4, s5, s6, s7, s8, s9, s10, s11⟩; go_simp; with_reducible rfl); rotate_left; (· simp only [Act.put, setIfInBounds_toArray, set_cons_zero, set_cons_succ, i64_w, i32_w]; rfl)
           refine take_ (i := 19) (N := some 69) (v := ?_) (a' := ?_) (bl_41 34 1039138815) rfl rfl (take_ofW HT_.out HW_.out (by kernel_rfl)) (fun _ _ _ h => h) (Or.inl ⟨by rfl, ?_⟩) hHeld ?_ ?_; rotate_left; (· rintro w' ⟨s0, s1, s2, s3, s4, s5, s6, s7, s8, s9, s10, s11⟩; go_simp; with_reducible rfl); rotate_left; (· simp only [Act.put, setIfInBounds_toArray, set_cons_zero, set_cons_succ, i64_w, i32_w]; rfl)
           refine take_ (i := 25) (N := some 75) (v := ?_) (a' := ?_) (bl_41 34 1072693247) rfl rfl (take_ofW HT_.out HW_.out (by kernel_rfl)) (fun _ _ _ h => h) (Or.inl ⟨by rfl, ?_⟩) hHeld ?_ ?_; rotate_left; (· rintro w' ⟨s0, s1, s2, s3, s4, s5, s6, s7, s8, s9, s10, s11⟩; go_simp; with_reducible rfl); rotate_left; (· simp only [Act.put, setIfInBounds_toArray, set_cons_zero, set_cons_succ, i64_w, i32_w]; rfl)
           refine take_ (i := 30) (N := some 80) (v := ?_) (a' := ?_) (bl_41 34 2146435071) rfl rfl (take_ofW HT_.out HW_.out (by kernel_rfl)) (fun _ _ _ h => h) (Or.inl ⟨by rfl, ?_⟩) hHeld ?_ ?_; rotate_left; (· rintro w' ⟨s0, s1, s2, s3, s4, s5, s6, s7, s8, s9, s10, s11⟩; go_simp; with_reducible rfl); rotate_left; (· simp only [Act.put, setIfInBounds_toArray, set_cons_zero, set_cons_succ, i64_w, i32_w]; rfl)
           refine one_ (i := 20) (N := some 70) (bl_41 34 2147483647) rfl rfl (one_of HT_.out (by kernel_rfl)) (by decide) (fun K hK => ?_)
           refine goes_ Try.func26 (by kernel_rfl) rfl #[.int .u64 ((rd_T59 t279 x11_2).f0), .int .u64 ((rd_T59 t279 x11_2).f1)] (by rfl) rfl rfl (by (try simp only [map_toArray, map_cons, map_nil]); first | done | rfl) ?_
           with_reducible refine (paroleref03_Join.calls ((rd_T59 t279 x11_2).f0) ((rd_T59 t279 x11_2).f1) t297 _ A52.out).mono ?_
           rintro e w' ⟨rfl, ⟨nd, rfl⟩⟩
           refine ⟨_, rfl, ?_⟩
           refine hK.out _ _ ⟨hHeld.1, hHeld.2.1, hHeld.2.2.1, hHeld.2.2.2.1, hHeld.2.2.2.2.1, hHeld.2.2.2.2.2.1, hHeld.2.2.2.2.2.2.1, hHeld.2.2.2.2.2.2.2.1, hHeld.2.2.2.2.2.2.2.2.1, hHeld.2.2.2.2.2.2.2.2.2.1, hHeld.2.2.2.2.2.2.2.2.2.2.1, hHeld.2.2.2.2.2.2.2.2.2.2.2⟩ (fun hHeld => ?_)
           clear hK K
           refine norm_ (a' := ?_) ?_ ?_
           rotate_left
           ·
            show Act.put _ (some 70) _ = _
            simp only [Act.put, setIfInBounds_toArray, set_cons_zero, set_cons_succ, i64_w, i32_w]
            rfl
           refine one_ (i := 31) (N := some 81) (bl_41 34 4294967295) rfl rfl (one_of HT_.out (by kernel_rfl)) (by decide) (fun K hK => ?_)
           refine goes_ Try.func26 (by kernel_rfl) rfl #[.int .u64 ((rd_T59 t282 x11_2).f0), .int .u64 ((rd_T59 t282 x11_2).f1)] (by rfl) rfl rfl (by (try simp only [map_toArray, map_cons, map_nil]); first | done | rfl) ?_
           with_reducible refine (paroleref03_Join.calls ((rd_T59 t282 x11_2).f0) ((rd_T59 t282 x11_2).f1) t300 _ A53.out).mono ?_
           rintro e w' ⟨rfl, ⟨nd, rfl⟩⟩
           refine ⟨_, rfl, ?_⟩
           refine hK.out _ _ ⟨hHeld.1, hHeld.2.1, hHeld.2.2.1, hHeld.2.2.2.1, hHeld.2.2.2.2.1, hHeld.2.2.2.2.2.1, hHeld.2.2.2.2.2.2.1, hHeld.2.2.2.2.2.2.2.1, hHeld.2.2.2.2.2.2.2.2.1, hHeld.2.2.2.2.2.2.2.2.2.1, hHeld.2.2.2.2.2.2.2.2.2.2.1, hHeld.2.2.2.2.2.2.2.2.2.2.2⟩ (fun hHeld => ?_)
           clear hK K
           refine norm_ (a' := ?_) ?_ ?_
           rotate_left
           ·
            show Act.put _ (some 81) _ = _
            simp only [Act.put, setIfInBounds_toArray, set_cons_zero, set_cons_succ, i64_w, i32_w]
            rfl
           refine pure_ (i := 32) (N := some 82) (v := ?_) (a' := ?_) (bl_41 34 8589934591) rfl rfl (any_of HT_.out (by kernel_rfl)) (fun _ _ _ h => h) (Or.inl ⟨by rfl, ?_⟩) ?_ ?_; rotate_left; (· intro w'; go_simp; with_reducible rfl); rotate_left; (· simp only [Act.put, setIfInBounds_toArray, set_cons_zero, set_cons_succ, i64_w, i32_w]; rfl)
           refine pure_ (i := 33) (N := some 83) (v := ?_) (a' := ?_) (bl_41 34 17179869183) rfl rfl (any_of HT_.out (by kernel_rfl)) (fun _ _ _ h => h) (Or.inl ⟨by rfl, ?_⟩) ?_ ?_; rotate_left; (· intro w'; go_simp; with_reducible rfl); rotate_left; (· simp only [Act.put, setIfInBounds_toArray, set_cons_zero, set_cons_succ, i64_w, i32_w]; rfl)
           refine done_ (done_of HT_.out (by kernel_rfl)) ?_
           try go_wp2
           (try (rw [drewN_self w56]; generalize hq_ : World.drewN w56 _ = w56; have n0_ : Aside0 (Kd.R k59 59 w56 w.heap.size (fun k_ => some k_ ≠ (.slice (some ad285) t279.length co55 : Value).ownBlock) (.slice (some ad286) t282.length co57) t282) := ⟨by rw [← hq_]; exact (by (with_reducible repeat (first | apply Kd.R_alloc | apply Kd.R_drewN | apply Kd.R_drew)); exact HO_10.out)⟩; have n1_ : Aside0 (Kd.R k59 59 w56 w.heap.size (fun k_ => some k_ ≠ (.slice (some ad286) t282.length co57 : Value).ownBlock) (.slice (some ad285) t279.length co55) t279) := ⟨by rw [← hq_]; exact (by (with_reducible repeat (first | apply Kd.R_alloc | apply Kd.R_drewN | apply Kd.R_drew)); exact HO_9.out)⟩; have n2_ : Aside0 (w56.heap[gb272]? = some (.cells #[.int .u64 a2_0, .slice A2_1 l2_1.length c2_1] 50 (0, 0))) := ⟨by rw [← hq_]; exact (by (with_reducible repeat (first | refine blk_drewN ?_ _ | refine blk_drew ?_ | refine blk_alloc ?_ _)); exact BK272.out)⟩; have n3_ : Aside0 (w56.heap[gb273]? = some (.cells #[.int .u64 a3_0, .slice A3_1 l3_1.length c3_1] 50 (0, 0))) := ⟨by rw [← hq_]; exact (by (with_reducible repeat (first | refine blk_drewN ?_ _ | refine blk_drew ?_ | refine blk_alloc ?_ _)); exact BK273.out)⟩; have n4_ : Aside0 (w56.heap[gb274]? = some (.cells #[.int .u64 x275000_2, .int .u64 x275001_2, .int .u64 x275002_2, .int .u64 x275003_2, .bool x275004_2] 64 (0, 0))) := ⟨by rw [← hq_]; exact (by (with_reducible repeat (first | refine blk_drewN ?_ _ | refine blk_drew ?_ | refine blk_alloc ?_ _)); exact BK274.out)⟩; have n5_ : Aside0 (Below w.heap.size w w56) := ⟨by rw [← hq_]; exact (by repeat (first | (with_reducible first | exact HB.out | apply below_alloc | apply pw_below_drewN | apply below_drew1 | refine below_set ?_ GE272.out | refine below_set ?_ GE273.out | refine below_set ?_ GE274.out) | exact HB.out))⟩; clear HO_10 HO_9 BK272 BK273 BK274 HB hq_; have HO_10 := n0_; have HO_9 := n1_; have BK272 := n2_; have BK273 := n3_; have BK274 := n4_; have HB := n5_; clear n0_ n1_ n2_ n3_ n4_ n5_))
           have n0_ := Aside0.mk (Kd.R_drew HO_9.out)
           have n1_ := Aside0.mk (Kd.R_drew HO_10.out)
           have n2_ := Aside0.mk (blk_drew BK272.out)
           have n3_ := Aside0.mk (blk_drew BK273.out)
           have n4_ := Aside0.mk (blk_drew BK274.out)
           have n5_ := Aside0.mk (below_drew1 HB.out)
           clear HO_9
           clear HO_10
           clear BK272
           clear BK273
           clear BK274
           clear HB
           have HO_9 := n0_
           have HO_10 := n1_
           have BK272 := n2_
           have BK273 := n3_
           have BK274 := n4_
           have HB := n5_
           clear n0_ n1_ n2_ n3_ n4_ n5_
           have p301 : 0 ≤ (x11_2 : Int) := of_decide_eq_true (by first | (with_reducible assumption) | assumption)
           have q301 : x11_2 < (t279.length : Int) := of_decide_eq_true (by first | (with_reducible assumption) | assumption)
           obtain ⟨ad301, e301, hx301_0, hx301_1⟩ := at_T59 (Kd.R_reads' HO_9.out).2.2 x11_2 p301 q301
           obtain rfl : ad285 = ad301 := (by injection e301)
           replace p301 := eq_true p301
           replace q301 := eq_true q301
           have p302 : 0 ≤ (x11_2 : Int) := of_decide_eq_true (by first | (with_reducible assumption) | assumption)
           have q302 : x11_2 < (t282.length : Int) := of_decide_eq_true (by first | (with_reducible assumption) | assumption)
           obtain ⟨ad302, e302, hx302_0, hx302_1⟩ := at_T59 (Kd.R_reads' HO_10.out).2.2 x11_2 p302 q302
           obtain rfl : ad286 = ad302 := (by injection e302)
           replace p302 := eq_true p302
           replace q302 := eq_true q302
           refine start_ (n := 11) (S := fun w' => w'.cell? (ad285.add ((x11_2).toNat * 2)) = some (.int .u64 ((rd_T59 t279 x11_2).f0)) ∧ w'.cell? ⟨(ad285.add ((x11_2).toNat * 2)).block, (ad285.add ((x11_2).toNat * 2)).off + 1, none⟩ = some (.int .u64 ((rd_T59 t279 x11_2).f1)) ∧ w'.cell? (ad286.add ((x11_2).toNat * 2)) = some (.int .u64 ((rd_T59 t282 x11_2).f0)) ∧ w'.cell? ⟨(ad286.add ((x11_2).toNat * 2)).block, (ad286.add ((x11_2).toNat * 2)).off + 1, none⟩ = some (.int .u64 ((rd_T59 t282 x11_2).f1))) (ds := []) #[false, false, false, false, false, false, false, false, false, false, false] (by kernel_rfl) rfl rfl ⟨hx301_0, hx301_1, hx302_0, hx302_1⟩ (fun hHeld => ?_); refine with_tabW paroleref04_Collide.tab8 paroleref04_Collide.bits8 (fun HT_ HW_ => ?_)
           generalize w56.drew = w58 at HO_9 HO_10 BK272 BK273 BK274 HB hx301_0 hx301_1 hx302_0 hx302_1 hHeld ⊢
           refine pure_ (i := 0) (N := some 84) (v := ?_) (a' := ?_) (bl_41 11 1) rfl rfl (any_of HT_.out (by kernel_rfl)) (fun _ _ _ h => h) (Or.inl ⟨by rfl, ?_⟩) ?_ ?_; rotate_left; (· intro w'; go_simp; with_reducible rfl); rotate_left; (· simp only [Act.put, setIfInBounds_toArray, set_cons_zero, set_cons_succ, i64_w, i32_w]; rfl)
           refine pure_ (i := 1) (N := some 85) (v := ?_) (a' := ?_) (bl_41 11 3) rfl rfl (any_of HT_.out (by kernel_rfl)) (fun _ _ _ h => h) (Or.inl ⟨by rfl, ?_⟩) ?_ ?_; rotate_left; (· intro w'; go_simp; with_reducible rfl); rotate_left; (· simp only [Act.put, setIfInBounds_toArray, set_cons_zero, set_cons_succ, i64_w, i32_w]; rfl)
           refine pure_ (i := 2) (N := some 86) (v := ?_) (a' := ?_) (bl_41 11 7) rfl rfl (any_of HT_.out (by kernel_rfl)) (fun _ _ _ h => h) (Or.inl ⟨by rfl, ?_⟩) ?_ ?_; rotate_left; (· intro w'; go_simp; with_reducible rfl); rotate_left; (· simp only [Act.put, setIfInBounds_toArray, set_cons_zero, set_cons_succ, i64_w, i32_w]; rfl)
           refine pure_ (i := 4) (N := some 88) (v := ?_) (a' := ?_) (bl_41 11 23) rfl rfl (any_of HT_.out (by kernel_rfl)) (fun _ _ _ h => h) (Or.inl ⟨by rfl, ?_⟩) ?_ ?_; rotate_left; (· intro w'; go_simp; with_reducible rfl); rotate_left; (· simp only [Act.put, setIfInBounds_toArray, set_cons_zero, set_cons_succ, i64_w, i32_w]; rfl)
           refine pure_ (i := 5) (N := some 89) (v := ?_) (a' := ?_) (bl_41 11 55) rfl rfl (any_of HT_.out (by kernel_rfl)) (fun _ _ _ h => h) (Or.inl ⟨by rfl, ?_⟩) ?_ ?_; rotate_left; (· intro w'; go_simp; with_reducible rfl); rotate_left; (· simp only [Act.put, setIfInBounds_toArray, set_cons_zero, set_cons_succ, i64_w, i32_w]; rfl)
           refine pure_ (i := 6) (N := some 90) (v := ?_) (a' := ?_) (bl_41 11 119) rfl rfl (any_of HT_.out (by kernel_rfl)) (fun _ _ _ h => h) (Or.inl ⟨by rfl, ?_⟩) ?_ ?_; rotate_left; (· intro w'; go_simp; with_reducible rfl); rotate_left; (· simp only [Act.put, setIfInBounds_toArray, set_cons_zero, set_cons_succ, i64_w, i32_w]; rfl)
           refine take_ (i := 3) (N := some 87) (v := ?_) (a' := ?_) (bl_41 11 127) rfl rfl (take_ofW HT_.out HW_.out (by kernel_rfl)) (fun _ _ _ h => h) (Or.inl ⟨by rfl, ?_⟩) hHeld ?_ ?_; rotate_left; (· rintro w' ⟨s0, s1, s2, s3⟩; go_simp; with_reducible rfl); rotate_left; (· simp only [Act.put, setIfInBounds_toArray, set_cons_zero, set_cons_succ, i64_w, i32_w]; rfl)
           refine take_ (i := 7) (N := some 91) (v := ?_) (a' := ?_) (bl_41 11 255) rfl rfl (take_ofW HT_.out HW_.out (by kernel_rfl)) (fun _ _ _ h => h) (Or.inl ⟨by rfl, ?_⟩) hHeld ?_ ?_; rotate_left; (· rintro w' ⟨s0, s1, s2, s3⟩; go_simp; with_reducible rfl); rotate_left; (· simp only [Act.put, setIfInBounds_toArray, set_cons_zero, set_cons_succ, i64_w, i32_w]; rfl)
           refine pure_ (i := 8) (N := some 92) (v := ?_) (a' := ?_) (bl_41 11 511) rfl rfl (any_of HT_.out (by kernel_rfl)) (fun _ _ _ h => h) (Or.inl ⟨by rfl, ?_⟩) ?_ ?_; rotate_left; (· intro w'; go_simp; with_reducible rfl); rotate_left; (· simp only [Act.put, setIfInBounds_toArray, set_cons_zero, set_cons_succ, i64_w, i32_w]; rfl)
           refine pure_ (i := 9) (N := some 93) (v := ?_) (a' := ?_) (bl_41 11 1023) rfl rfl (any_of HT_.out (by kernel_rfl)) (fun _ _ _ h => h) (Or.inl ⟨by rfl, ?_⟩) ?_ ?_; rotate_left; (· intro w'; go_simp; with_reducible rfl); rotate_left; (· simp only [Act.put, setIfInBounds_toArray, set_cons_zero, set_cons_succ, i64_w, i32_w]; rfl)
           refine one_ (i := 10) (N := none) (bl_41 11 2047) rfl rfl (one_of HT_.out (by kernel_rfl)) (by decide) (fun K hK => ?_)
           have hs59 : w58.cell? ⟨gb274, 0, none⟩ = some (.int .u64 x275000_2) := (blk_cell BK274.out 0).trans rfl
           have hfs59 := blk_frozen BK274.out 0
           have hns59_0 := NB272_274.out
           have hns59_1 := NB273_274.out
           have hms59_0 := NB274_272.out
           have hms59_1 := NB274_273.out
           have hs60 : w58.cell? ⟨gb274, 1, none⟩ = some (.int .u64 x275001_2) := (blk_cell BK274.out 1).trans rfl
           have hfs60 := blk_frozen BK274.out 1
           have hns60_0 := NB272_274.out
           have hns60_1 := NB273_274.out
           have hms60_0 := NB274_272.out
           have hms60_1 := NB274_273.out
           have hs61 : w58.cell? ⟨gb274, 2, none⟩ = some (.int .u64 x275002_2) := (blk_cell BK274.out 2).trans rfl
           have hfs61 := blk_frozen BK274.out 2
           have hns61_0 := NB272_274.out
           have hns61_1 := NB273_274.out
           have hms61_0 := NB274_272.out
           have hms61_1 := NB274_273.out
           have hs62 : w58.cell? ⟨gb274, 3, none⟩ = some (.int .u64 x275003_2) := (blk_cell BK274.out 3).trans rfl
           have hfs62 := blk_frozen BK274.out 3
           have hns62_0 := NB272_274.out
           have hns62_1 := NB273_274.out
           have hms62_0 := NB274_272.out
           have hms62_1 := NB274_273.out
           have hs63 : w58.cell? ⟨gb274, 4, none⟩ = some (.bool x275004_2) := (blk_cell BK274.out 4).trans rfl
           have hfs63 := blk_frozen BK274.out 4
           have hns63_0 := NB272_274.out
           have hns63_1 := NB273_274.out
           have hms63_0 := NB274_272.out
           have hms63_1 := NB274_273.out
           refine skip_ (w1 := ?_) (by rfl) rfl ?_ ?_
           rotate_left
           ·
            go_simp
            rfl
           refine hK.out _ _ ⟨((cell_far (p := ⟨gb274, _, none⟩) (by first | exact Kd.own_blk (Kd.R_ne HO_9.out BK274.out (by decide)) | (rw [add_block]; exact Kd.own_blk (Kd.R_ne HO_9.out BK274.out (by decide))) | (show (Addr.add _ _).block ≠ _; rw [add_block]; exact Kd.own_blk (Kd.R_ne HO_9.out BK274.out (by decide))) | (dsimp only; exact Kd.own_blk (Kd.R_ne HO_9.out BK274.out (by decide)))) _).trans (((cell_far (p := ⟨gb274, _, none⟩) (by first | exact Kd.own_blk (Kd.R_ne HO_9.out BK274.out (by decide)) | (rw [add_block]; exact Kd.own_blk (Kd.R_ne HO_9.out BK274.out (by decide))) | (show (Addr.add _ _).block ≠ _; rw [add_block]; exact Kd.own_blk (Kd.R_ne HO_9.out BK274.out (by decide))) | (dsimp only; exact Kd.own_blk (Kd.R_ne HO_9.out BK274.out (by decide)))) _).trans (((cell_far (p := ⟨gb274, _, none⟩) (by first | exact Kd.own_blk (Kd.R_ne HO_9.out BK274.out (by decide)) | (rw [add_block]; exact Kd.own_blk (Kd.R_ne HO_9.out BK274.out (by decide))) | (show (Addr.add _ _).block ≠ _; rw [add_block]; exact Kd.own_blk (Kd.R_ne HO_9.out BK274.out (by decide))) | (dsimp only; exact Kd.own_blk (Kd.R_ne HO_9.out BK274.out (by decide)))) _).trans (((cell_far (p := ⟨gb274, _, none⟩) (by first | exact Kd.own_blk (Kd.R_ne HO_9.out BK274.out (by decide)) | (rw [add_block]; exact Kd.own_blk (Kd.R_ne HO_9.out BK274.out (by decide))) | (show (Addr.add _ _).block ≠ _; rw [add_block]; exact Kd.own_blk (Kd.R_ne HO_9.out BK274.out (by decide))) | (dsimp only; exact Kd.own_blk (Kd.R_ne HO_9.out BK274.out (by decide)))) _).trans (((cell_far (p := ⟨gb274, _, none⟩) (by first | exact Kd.own_blk (Kd.R_ne HO_9.out BK274.out (by decide)) | (rw [add_block]; exact Kd.own_blk (Kd.R_ne HO_9.out BK274.out (by decide))) | (show (Addr.add _ _).block ≠ _; rw [add_block]; exact Kd.own_blk (Kd.R_ne HO_9.out BK274.out (by decide))) | (dsimp only; exact Kd.own_blk (Kd.R_ne HO_9.out BK274.out (by decide)))) _).trans (hHeld.1)))))))))), ((cell_far (p := ⟨gb274, _, none⟩) (by first | exact Kd.own_blk (Kd.R_ne HO_9.out BK274.out (by decide)) | (rw [add_block]; exact Kd.own_blk (Kd.R_ne HO_9.out BK274.out (by decide))) | (show (Addr.add _ _).block ≠ _; rw [add_block]; exact Kd.own_blk (Kd.R_ne HO_9.out BK274.out (by decide))) | (dsimp only; exact Kd.own_blk (Kd.R_ne HO_9.out BK274.out (by decide)))) _).trans (((cell_far (p := ⟨gb274, _, none⟩) (by first | exact Kd.own_blk (Kd.R_ne HO_9.out BK274.out (by decide)) | (rw [add_block]; exact Kd.own_blk (Kd.R_ne HO_9.out BK274.out (by decide))) | (show (Addr.add _ _).block ≠ _; rw [add_block]; exact Kd.own_blk (Kd.R_ne HO_9.out BK274.out (by decide))) | (dsimp only; exact Kd.own_blk (Kd.R_ne HO_9.out BK274.out (by decide)))) _).trans (((cell_far (p := ⟨gb274, _, none⟩) (by first | exact Kd.own_blk (Kd.R_ne HO_9.out BK274.out (by decide)) | (rw [add_block]; exact Kd.own_blk (Kd.R_ne HO_9.out BK274.out (by decide))) | (show (Addr.add _ _).block ≠ _; rw [add_block]; exact Kd.own_blk (Kd.R_ne HO_9.out BK274.out (by decide))) | (dsimp only; exact Kd.own_blk (Kd.R_ne HO_9.out BK274.out (by decide)))) _).trans (((cell_far (p := ⟨gb274, _, none⟩) (by first | exact Kd.own_blk (Kd.R_ne HO_9.out BK274.out (by decide)) | (rw [add_block]; exact Kd.own_blk (Kd.R_ne HO_9.out BK274.out (by decide))) | (show (Addr.add _ _).block ≠ _; rw [add_block]; exact Kd.own_blk (Kd.R_ne HO_9.out BK274.out (by decide))) | (dsimp only; exact Kd.own_blk (Kd.R_ne HO_9.out BK274.out (by decide)))) _).trans (((cell_far (p := ⟨gb274, _, none⟩) (by first | exact Kd.own_blk (Kd.R_ne HO_9.out BK274.out (by decide)) | (rw [add_block]; exact Kd.own_blk (Kd.R_ne HO_9.out BK274.out (by decide))) | (show (Addr.add _ _).block ≠ _; rw [add_block]; exact Kd.own_blk (Kd.R_ne HO_9.out BK274.out (by decide))) | (dsimp only; exact Kd.own_blk (Kd.R_ne HO_9.out BK274.out (by decide)))) _).trans (hHeld.2.1)))))))))), ((cell_far (p := ⟨gb274, _, none⟩) (by first | exact Kd.own_blk (Kd.R_ne HO_10.out BK274.out (by decide)) | (rw [add_block]; exact Kd.own_blk (Kd.R_ne HO_10.out BK274.out (by decide))) | (show (Addr.add _ _).block ≠ _; rw [add_block]; exact Kd.own_blk (Kd.R_ne HO_10.out BK274.out (by decide))) | (dsimp only; exact Kd.own_blk (Kd.R_ne HO_10.out BK274.out (by decide)))) _).trans (((cell_far (p := ⟨gb274, _, none⟩) (by first | exact Kd.own_blk (Kd.R_ne HO_10.out BK274.out (by decide)) | (rw [add_block]; exact Kd.own_blk (Kd.R_ne HO_10.out BK274.out (by decide))) | (show (Addr.add _ _).block ≠ _; rw [add_block]; exact Kd.own_blk (Kd.R_ne HO_10.out BK274.out (by decide))) | (dsimp only; exact Kd.own_blk (Kd.R_ne HO_10.out BK274.out (by decide)))) _).trans (((cell_far (p := ⟨gb274, _, none⟩) (by first | exact Kd.own_blk (Kd.R_ne HO_10.out BK274.out (by decide)) | (rw [add_block]; exact Kd.own_blk (Kd.R_ne HO_10.out BK274.out (by decide))) | (show (Addr.add _ _).block ≠ _; rw [add_block]; exact Kd.own_blk (Kd.R_ne HO_10.out BK274.out (by decide))) | (dsimp only; exact Kd.own_blk (Kd.R_ne HO_10.out BK274.out (by decide)))) _).trans (((cell_far (p := ⟨gb274, _, none⟩) (by first | exact Kd.own_blk (Kd.R_ne HO_10.out BK274.out (by decide)) | (rw [add_block]; exact Kd.own_blk (Kd.R_ne HO_10.out BK274.out (by decide))) | (show (Addr.add _ _).block ≠ _; rw [add_block]; exact Kd.own_blk (Kd.R_ne HO_10.out BK274.out (by decide))) | (dsimp only; exact Kd.own_blk (Kd.R_ne HO_10.out BK274.out (by decide)))) _).trans (((cell_far (p := ⟨gb274, _, none⟩) (by first | exact Kd.own_blk (Kd.R_ne HO_10.out BK274.out (by decide)) | (rw [add_block]; exact Kd.own_blk (Kd.R_ne HO_10.out BK274.out (by decide))) | (show (Addr.add _ _).block ≠ _; rw [add_block]; exact Kd.own_blk (Kd.R_ne HO_10.out BK274.out (by decide))) | (dsimp only; exact Kd.own_blk (Kd.R_ne HO_10.out BK274.out (by decide)))) _).trans (hHeld.2.2.1)))))))))), ((cell_far (p := ⟨gb274, _, none⟩) (by first | exact Kd.own_blk (Kd.R_ne HO_10.out BK274.out (by decide)) | (rw [add_block]; exact Kd.own_blk (Kd.R_ne HO_10.out BK274.out (by decide))) | (show (Addr.add _ _).block ≠ _; rw [add_block]; exact Kd.own_blk (Kd.R_ne HO_10.out BK274.out (by decide))) | (dsimp only; exact Kd.own_blk (Kd.R_ne HO_10.out BK274.out (by decide)))) _).trans (((cell_far (p := ⟨gb274, _, none⟩) (by first | exact Kd.own_blk (Kd.R_ne HO_10.out BK274.out (by decide)) | (rw [add_block]; exact Kd.own_blk (Kd.R_ne HO_10.out BK274.out (by decide))) | (show (Addr.add _ _).block ≠ _; rw [add_block]; exact Kd.own_blk (Kd.R_ne HO_10.out BK274.out (by decide))) | (dsimp only; exact Kd.own_blk (Kd.R_ne HO_10.out BK274.out (by decide)))) _).trans (((cell_far (p := ⟨gb274, _, none⟩) (by first | exact Kd.own_blk (Kd.R_ne HO_10.out BK274.out (by decide)) | (rw [add_block]; exact Kd.own_blk (Kd.R_ne HO_10.out BK274.out (by decide))) | (show (Addr.add _ _).block ≠ _; rw [add_block]; exact Kd.own_blk (Kd.R_ne HO_10.out BK274.out (by decide))) | (dsimp only; exact Kd.own_blk (Kd.R_ne HO_10.out BK274.out (by decide)))) _).trans (((cell_far (p := ⟨gb274, _, none⟩) (by first | exact Kd.own_blk (Kd.R_ne HO_10.out BK274.out (by decide)) | (rw [add_block]; exact Kd.own_blk (Kd.R_ne HO_10.out BK274.out (by decide))) | (show (Addr.add _ _).block ≠ _; rw [add_block]; exact Kd.own_blk (Kd.R_ne HO_10.out BK274.out (by decide))) | (dsimp only; exact Kd.own_blk (Kd.R_ne HO_10.out BK274.out (by decide)))) _).trans (((cell_far (p := ⟨gb274, _, none⟩) (by first | exact Kd.own_blk (Kd.R_ne HO_10.out BK274.out (by decide)) | (rw [add_block]; exact Kd.own_blk (Kd.R_ne HO_10.out BK274.out (by decide))) | (show (Addr.add _ _).block ≠ _; rw [add_block]; exact Kd.own_blk (Kd.R_ne HO_10.out BK274.out (by decide))) | (dsimp only; exact Kd.own_blk (Kd.R_ne HO_10.out BK274.out (by decide)))) _).trans (hHeld.2.2.2))))))))))⟩ (fun hHeld => ?_)
           clear hK K
           refine done_ (done_of HT_.out (by kernel_rfl)) ?_
           try go_wp2
           refine bodyPost_ret (results_cell_row rfl _ _ gb274 64 #[.int .u64 ((rd_T59 t279 x11_2).f0), .int .u64 ((rd_T59 t279 x11_2).f1), .int .u64 ((rd_T59 t282 x11_2).f0), .int .u64 ((rd_T59 t282 x11_2).f1), .bool true] (0, 0) _ rfl (by (with_reducible repeat (first | refine blk_drewN ?_ _ | refine blk_drew ?_ | refine blk_alloc ?_ _)); refine blk_put (cs := #[.int .u64 ((rd_T59 t279 x11_2).f0), .int .u64 ((rd_T59 t279 x11_2).f1), .int .u64 ((rd_T59 t282 x11_2).f0), .int .u64 ((rd_T59 t282 x11_2).f1), .bool x275004_2]) ?_ 4 _ rfl; (with_reducible repeat (first | refine blk_drewN ?_ _ | refine blk_drew ?_ | refine blk_alloc ?_ _)); refine blk_put (cs := #[.int .u64 ((rd_T59 t279 x11_2).f0), .int .u64 ((rd_T59 t279 x11_2).f1), .int .u64 ((rd_T59 t282 x11_2).f0), .int .u64 x275003_2, .bool x275004_2]) ?_ 3 _ rfl; (with_reducible repeat (first | refine blk_drewN ?_ _ | refine blk_drew ?_ | refine blk_alloc ?_ _)); refine blk_put (cs := #[.int .u64 ((rd_T59 t279 x11_2).f0), .int .u64 ((rd_T59 t279 x11_2).f1), .int .u64 x275002_2, .int .u64 x275003_2, .bool x275004_2]) ?_ 2 _ rfl; (with_reducible repeat (first | refine blk_drewN ?_ _ | refine blk_drew ?_ | refine blk_alloc ?_ _)); refine blk_put (cs := #[.int .u64 ((rd_T59 t279 x11_2).f0), .int .u64 x275001_2, .int .u64 x275002_2, .int .u64 x275003_2, .bool x275004_2]) ?_ 1 _ rfl; (with_reducible repeat (first | refine blk_drewN ?_ _ | refine blk_drew ?_ | refine blk_alloc ?_ _)); refine blk_put (cs := #[.int .u64 x275000_2, .int .u64 x275001_2, .int .u64 x275002_2, .int .u64 x275003_2, .bool x275004_2]) ?_ 0 _ rfl; (with_reducible repeat (first | refine blk_drewN ?_ _ | refine blk_drew ?_ | refine blk_alloc ?_ _)); exact BK274.out) Try.underlying64 rfl (by kernel_rfl)) rfl ?_
           exact ⟨by first | rfl | (simp [errW_none, errW_some] <;> rfl) | (simp [*, errW_none, errW_some] <;> rfl), by repeat (first | (with_reducible first | exact HB.out | apply below_alloc | apply pw_below_drewN | apply below_drew1 | refine below_set ?_ GE272.out | refine below_set ?_ GE273.out | refine below_set ?_ GE274.out) | exact HB.out)⟩
          ·
           rw [if_neg c54] at H
           have c54b0 : (t297 == t300) = false := beq_eq_false_iff_ne.mpr c54
           have c54b1 : (t297 != t300) = true := bne_iff_ne.mpr c54
           have H' := Aside0.mk H
           clear H
           obtain ⟨Ao64, co64, eo64⟩ := Kd.R_slice HO_9.out
           subst eo64
           try go_wp2
           have n0_ := Aside0.mk (Kd.R_drew HO_9.out)
           have n1_ := Aside0.mk (Kd.R_drew HO_10.out)
           have n2_ := Aside0.mk (blk_drew BK272.out)
           have n3_ := Aside0.mk (blk_drew BK273.out)
           have n4_ := Aside0.mk (blk_drew BK274.out)
           have n5_ := Aside0.mk (below_drew1 HB.out)
           clear HO_9
           clear HO_10
           clear BK272
           clear BK273
           clear BK274
           clear HB
           have HO_9 := n0_
           have HO_10 := n1_
           have BK272 := n2_
           have BK273 := n3_
           have BK274 := n4_
           have HB := n5_
           clear n0_ n1_ n2_ n3_ n4_ n5_
           have p285 : 0 ≤ (x11_2 : Int) := of_decide_eq_true (by first | (with_reducible assumption) | assumption)
           have q285 : x11_2 < (t279.length : Int) := of_decide_eq_true (by first | (with_reducible assumption) | assumption)
           obtain ⟨ad285, e285, hx285_0, hx285_1⟩ := at_T59 (Kd.R_reads' HO_9.out).2.2 x11_2 p285 q285
           cases e285
           replace p285 := eq_true p285
           replace q285 := eq_true q285
           obtain ⟨Ao66, co66, eo66⟩ := Kd.R_slice HO_10.out
           (first | subst eo66 | (injection eo66 with f1_ f2_ f3_; have f4_ := f1_.symm; have f5_ := f3_.symm; clear f1_ f2_ f3_; subst f4_; subst f5_))
           have p286 : 0 ≤ (x11_2 : Int) := of_decide_eq_true (by first | (with_reducible assumption) | assumption)
           have q286 : x11_2 < (t282.length : Int) := of_decide_eq_true (by first | (with_reducible assumption) | assumption)
           obtain ⟨ad286, e286, hx286_0, hx286_1⟩ := at_T59 (Kd.R_reads' HO_10.out).2.2 x11_2 p286 q286
           cases e286
           replace p286 := eq_true p286
           replace q286 := eq_true q286
           have p295 : 0 ≤ (x11_2 : Int) := of_decide_eq_true (by first | (with_reducible assumption) | assumption)
           have q295 : x11_2 < (t279.length : Int) := of_decide_eq_true (by first | (with_reducible assumption) | assumption)
           obtain ⟨ad295, e295, hx295_0, hx295_1⟩ := at_T59 (Kd.R_reads' HO_9.out).2.2 x11_2 p295 q295
           obtain rfl : ad285 = ad295 := (by injection e295)
           replace p295 := eq_true p295
           replace q295 := eq_true q295
           have p296 : 0 ≤ (x11_2 : Int) := of_decide_eq_true (by first | (with_reducible assumption) | assumption)
           have q296 : x11_2 < (t279.length : Int) := of_decide_eq_true (by first | (with_reducible assumption) | assumption)
           obtain ⟨ad296, e296, hx296_0, hx296_1⟩ := at_T59 (Kd.R_reads' HO_9.out).2.2 x11_2 p296 q296
           obtain rfl : ad285 = ad296 := (by injection e296)
           replace p296 := eq_true p296
           replace q296 := eq_true q296
           have p298 : 0 ≤ (x11_2 : Int) := of_decide_eq_true (by first | (with_reducible assumption) | assumption)
           have q298 : x11_2 < (t282.length : Int) := of_decide_eq_true (by first | (with_reducible assumption) | assumption)
           obtain ⟨ad298, e298, hx298_0, hx298_1⟩ := at_T59 (Kd.R_reads' HO_10.out).2.2 x11_2 p298 q298
           obtain rfl : ad286 = ad298 := (by injection e298)
           replace p298 := eq_true p298
           replace q298 := eq_true q298
           have p299 : 0 ≤ (x11_2 : Int) := of_decide_eq_true (by first | (with_reducible assumption) | assumption)
           have q299 : x11_2 < (t282.length : Int) := of_decide_eq_true (by first | (with_reducible assumption) | assumption)
           obtain ⟨ad299, e299, hx299_0, hx299_1⟩ := at_T59 (Kd.R_reads' HO_10.out).2.2 x11_2 p299 q299
           obtain rfl : ad286 = ad299 := (by injection e299)
           replace p299 := eq_true p299
           replace q299 := eq_true q299
           refine start_ (n := 34) (S := fun w' => w'.cell? (ad285.add ((x11_2).toNat * 2)) = some (.int .u64 ((rd_T59 t279 x11_2).f0)) ∧ w'.cell? ⟨(ad285.add ((x11_2).toNat * 2)).block, (ad285.add ((x11_2).toNat * 2)).off + 1, none⟩ = some (.int .u64 ((rd_T59 t279 x11_2).f1)) ∧ w'.cell? (ad286.add ((x11_2).toNat * 2)) = some (.int .u64 ((rd_T59 t282 x11_2).f0)) ∧ w'.cell? ⟨(ad286.add ((x11_2).toNat * 2)).block, (ad286.add ((x11_2).toNat * 2)).off + 1, none⟩ = some (.int .u64 ((rd_T59 t282 x11_2).f1)) ∧ w'.cell? (ad285.add ((x11_2).toNat * 2)) = some (.int .u64 ((rd_T59 t279 x11_2).f0)) ∧ w'.cell? ⟨(ad285.add ((x11_2).toNat * 2)).block, (ad285.add ((x11_2).toNat * 2)).off + 1, none⟩ = some (.int .u64 ((rd_T59 t279 x11_2).f1)) ∧ w'.cell? (ad285.add ((x11_2).toNat * 2)) = some (.int .u64 ((rd_T59 t279 x11_2).f0)) ∧ w'.cell? ⟨(ad285.add ((x11_2).toNat * 2)).block, (ad285.add ((x11_2).toNat * 2)).off + 1, none⟩ = some (.int .u64 ((rd_T59 t279 x11_2).f1)) ∧ w'.cell? (ad286.add ((x11_2).toNat * 2)) = some (.int .u64 ((rd_T59 t282 x11_2).f0)) ∧ w'.cell? ⟨(ad286.add ((x11_2).toNat * 2)).block, (ad286.add ((x11_2).toNat * 2)).off + 1, none⟩ = some (.int .u64 ((rd_T59 t282 x11_2).f1)) ∧ w'.cell? (ad286.add ((x11_2).toNat * 2)) = some (.int .u64 ((rd_T59 t282 x11_2).f0)) ∧ w'.cell? ⟨(ad286.add ((x11_2).toNat * 2)).block, (ad286.add ((x11_2).toNat * 2)).off + 1, none⟩ = some (.int .u64 ((rd_T59 t282 x11_2).f1))) (ds := []) #[false, false, false, false, false, false, false, false, false, false, false, false, false, false, false, false, false, false, false, false, false, false, false, false, false, false, false, false, false, false, false, false, false, false] (by kernel_rfl) rfl rfl ⟨hx285_0, hx285_1, hx286_0, hx286_1, hx295_0, hx295_1, hx296_0, hx296_1, hx298_0, hx298_1, hx299_0, hx299_1⟩ (fun hHeld => ?_); refine with_tabW paroleref04_Collide.tab7 paroleref04_Collide.bits7 (fun HT_ HW_ => ?_)
           generalize wr.drew = w65 at HO_9 HO_10 BK272 BK273 BK274 HB hx285_0 hx285_1 hx286_0 hx286_1 hx295_0 hx295_1 hx296_0 hx296_1 hx298_0 hx298_1 hx299_0 hx299_1 hHeld ⊢
           refine pure_ (i := 0) (N := some 50) (v := ?_) (a' := ?_) (bl_41 34 1) rfl rfl (any_of HT_.out (by kernel_rfl)) (fun _ _ _ h => h) (Or.inl ⟨by rfl, ?_⟩) ?_ ?_; rotate_left; (· intro w'; go_simp; with_reducible rfl); rotate_left; (· simp only [Act.put, setIfInBounds_toArray, set_cons_zero, set_cons_succ, i64_w, i32_w]; rfl)
           refine pure_ (i := 1) (N := some 51) (v := ?_) (a' := ?_) (bl_41 34 3) rfl rfl (any_of HT_.out (by kernel_rfl)) (fun _ _ _ h => h) (Or.inl ⟨by rfl, ?_⟩) ?_ ?_; rotate_left; (· intro w'; go_simp; with_reducible rfl); rotate_left; (· simp only [Act.put, setIfInBounds_toArray, set_cons_zero, set_cons_succ, i64_w, i32_w]; rfl)
           refine pure_ (i := 2) (N := some 52) (v := ?_) (a' := ?_) (bl_41 34 7) rfl rfl (any_of HT_.out (by kernel_rfl)) (fun _ _ _ h => h) (Or.inl ⟨by rfl, ?_⟩) ?_ ?_; rotate_left; (· intro w'; go_simp; with_reducible rfl); rotate_left; (· simp only [Act.put, setIfInBounds_toArray, set_cons_zero, set_cons_succ, i64_w, i32_w]; rfl)
           refine pure_ (i := 4) (N := some 54) (v := ?_) (a' := ?_) (bl_41 34 23) rfl rfl (any_of HT_.out (by kernel_rfl)) (fun _ _ _ h => h) (Or.inl ⟨by rfl, ?_⟩) ?_ ?_; rotate_left; (· intro w'; go_simp; with_reducible rfl); rotate_left; (· simp only [Act.put, setIfInBounds_toArray, set_cons_zero, set_cons_succ, i64_w, i32_w]; rfl)
           refine pure_ (i := 5) (N := some 55) (v := ?_) (a' := ?_) (bl_41 34 55) rfl rfl (any_of HT_.out (by kernel_rfl)) (fun _ _ _ h => h) (Or.inl ⟨by rfl, ?_⟩) ?_ ?_; rotate_left; (· intro w'; go_simp; with_reducible rfl); rotate_left; (· simp only [Act.put, setIfInBounds_toArray, set_cons_zero, set_cons_succ, i64_w, i32_w]; rfl)
           refine pure_ (i := 6) (N := some 56) (v := ?_) (a' := ?_) (bl_41 34 119) rfl rfl (any_of HT_.out (by kernel_rfl)) (fun _ _ _ h => h) (Or.inl ⟨by rfl, ?_⟩) ?_ ?_; rotate_left; (· intro w'; go_simp; with_reducible rfl); rotate_left; (· simp only [Act.put, setIfInBounds_toArray, set_cons_zero, set_cons_succ, i64_w, i32_w]; rfl)
           refine take_ (i := 3) (N := some 53) (v := ?_) (a' := ?_) (bl_41 34 127) rfl rfl (take_ofW HT_.out HW_.out (by kernel_rfl)) (fun _ _ _ h => h) (Or.inl ⟨by rfl, ?_⟩) hHeld ?_ ?_; rotate_left; (· rintro w' ⟨s0, s1, s2, s3, s4, s5, s6, s7, s8, s9, s10, s11⟩; go_simp; with_reducible rfl); rotate_left; (· simp only [Act.put, setIfInBounds_toArray, set_cons_zero, set_cons_succ, i64_w, i32_w]; rfl)
           refine take_ (i := 7) (N := some 57) (v := ?_) (a' := ?_) (bl_41 34 255) rfl rfl (take_ofW HT_.out HW_.out (by kernel_rfl)) (fun _ _ _ h => h) (Or.inl ⟨by rfl, ?_⟩) hHeld ?_ ?_; rotate_left; (· rintro w' ⟨s0, s1, s2, s3, s4, s5, s6, s7, s8, s9, s10, s11⟩; go_simp; with_reducible rfl); rotate_left; (· simp only [Act.put, setIfInBounds_toArray, set_cons_zero, set_cons_succ, i64_w, i32_w]; rfl)
           refine pure_ (i := 8) (N := some 58) (v := ?_) (a' := ?_) (bl_41 34 511) rfl rfl (any_of HT_.out (by kernel_rfl)) (fun _ _ _ h => h) (Or.inl ⟨by rfl, ?_⟩) ?_ ?_; rotate_left; (· intro w'; go_simp; with_reducible rfl); rotate_left; (· simp only [Act.put, setIfInBounds_toArray, set_cons_zero, set_cons_succ, i64_w, i32_w]; rfl)
           refine pure_ (i := 9) (N := some 59) (v := ?_) (a' := ?_) (bl_41 34 1023) rfl rfl (any_of HT_.out (by kernel_rfl)) (fun _ _ _ h => h) (Or.inl ⟨by rfl, ?_⟩) ?_ ?_; rotate_left; (· intro w'; go_simp; with_reducible rfl); rotate_left; (· simp only [Act.put, setIfInBounds_toArray, set_cons_zero, set_cons_succ, i64_w, i32_w]; rfl)
           refine pure_ (i := 10) (N := some 60) (v := ?_) (a' := ?_) (bl_41 34 2047) rfl rfl (any_of HT_.out (by kernel_rfl)) (fun _ _ _ h => h) (Or.inl ⟨by rfl, ?_⟩) ?_ ?_; rotate_left; (· intro w'; go_simp; with_reducible rfl); rotate_left; (· simp only [Act.put, setIfInBounds_toArray, set_cons_zero, set_cons_succ, i64_w, i32_w]; rfl)
           refine pure_ (i := 11) (N := some 61) (v := ?_) (a' := ?_) (bl_41 34 4095) rfl rfl (any_of HT_.out (by kernel_rfl)) (fun _ _ _ h => h) (Or.inl ⟨by rfl, ?_⟩) ?_ ?_; rotate_left; (· intro w'; go_simp; with_reducible rfl); rotate_left; (· simp only [Act.put, setIfInBounds_toArray, set_cons_zero, set_cons_succ, i64_w, i32_w]; rfl)
           refine pure_ (i := 12) (N := some 62) (v := ?_) (a' := ?_) (bl_41 34 8191) rfl rfl (any_of HT_.out (by kernel_rfl)) (fun _ _ _ h => h) (Or.inl ⟨by rfl, ?_⟩) ?_ ?_; rotate_left; (· intro w'; go_simp; with_reducible rfl); rotate_left; (· simp only [Act.put, setIfInBounds_toArray, set_cons_zero, set_cons_succ, i64_w, i32_w]; rfl)
           refine pure_ (i := 13) (N := some 63) (v := ?_) (a' := ?_) (bl_41 34 16383) rfl rfl (any_of HT_.out (by kernel_rfl)) (fun _ _ _ h => h) (Or.inl ⟨by rfl, ?_⟩) ?_ ?_; rotate_left; (· intro w'; go_simp; with_reducible rfl); rotate_left; (· simp only [Act.put, setIfInBounds_toArray, set_cons_zero, set_cons_succ, i64_w, i32_w]; rfl)
           refine pure_ (i := 15) (N := some 65) (v := ?_) (a' := ?_) (bl_41 34 49151) rfl rfl (any_of HT_.out (by kernel_rfl)) (fun _ _ _ h => h) (Or.inl ⟨by rfl, ?_⟩) ?_ ?_; rotate_left; (· intro w'; go_simp; with_reducible rfl); rotate_left; (· simp only [Act.put, setIfInBounds_toArray, set_cons_zero, set_cons_succ, i64_w, i32_w]; rfl)
           refine pure_ (i := 16) (N := some 66) (v := ?_) (a' := ?_) (bl_41 34 114687) rfl rfl (any_of HT_.out (by kernel_rfl)) (fun _ _ _ h => h) (Or.inl ⟨by rfl, ?_⟩) ?_ ?_; rotate_left; (· intro w'; go_simp; with_reducible rfl); rotate_left; (· simp only [Act.put, setIfInBounds_toArray, set_cons_zero, set_cons_succ, i64_w, i32_w]; rfl)
           refine pure_ (i := 17) (N := some 67) (v := ?_) (a' := ?_) (bl_41 34 245759) rfl rfl (any_of HT_.out (by kernel_rfl)) (fun _ _ _ h => h) (Or.inl ⟨by rfl, ?_⟩) ?_ ?_; rotate_left; (· intro w'; go_simp; with_reducible rfl); rotate_left; (· simp only [Act.put, setIfInBounds_toArray, set_cons_zero, set_cons_succ, i64_w, i32_w]; rfl)
           refine pure_ (i := 18) (N := some 68) (v := ?_) (a' := ?_) (bl_41 34 507903) rfl rfl (any_of HT_.out (by kernel_rfl)) (fun _ _ _ h => h) (Or.inl ⟨by rfl, ?_⟩) ?_ ?_; rotate_left; (· intro w'; go_simp; with_reducible rfl); rotate_left; (· simp only [Act.put, setIfInBounds_toArray, set_cons_zero, set_cons_succ, i64_w, i32_w]; rfl)
           refine pure_ (i := 21) (N := some 71) (v := ?_) (a' := ?_) (bl_41 34 2605055) rfl rfl (any_of HT_.out (by kernel_rfl)) (fun _ _ _ h => h) (Or.inl ⟨by rfl, ?_⟩) ?_ ?_; rotate_left; (· intro w'; go_simp; with_reducible rfl); rotate_left; (· simp only [Act.put, setIfInBounds_toArray, set_cons_zero, set_cons_succ, i64_w, i32_w]; rfl)
           refine pure_ (i := 22) (N := some 72) (v := ?_) (a' := ?_) (bl_41 34 6799359) rfl rfl (any_of HT_.out (by kernel_rfl)) (fun _ _ _ h => h) (Or.inl ⟨by rfl, ?_⟩) ?_ ?_; rotate_left; (· intro w'; go_simp; with_reducible rfl); rotate_left; (· simp only [Act.put, setIfInBounds_toArray, set_cons_zero, set_cons_succ, i64_w, i32_w]; rfl)
           refine pure_ (i := 23) (N := some 73) (v := ?_) (a' := ?_) (bl_41 34 15187967) rfl rfl (any_of HT_.out (by kernel_rfl)) (fun _ _ _ h => h) (Or.inl ⟨by rfl, ?_⟩) ?_ ?_; rotate_left; (· intro w'; go_simp; with_reducible rfl); rotate_left; (· simp only [Act.put, setIfInBounds_toArray, set_cons_zero, set_cons_succ, i64_w, i32_w]; rfl)
           refine pure_ (i := 24) (N := some 74) (v := ?_) (a' := ?_) (bl_41 34 31965183) rfl rfl (any_of HT_.out (by kernel_rfl)) (fun _ _ _ h => h) (Or.inl ⟨by rfl, ?_⟩) ?_ ?_; rotate_left; (· intro w'; go_simp; with_reducible rfl); rotate_left; (· simp only [Act.put, setIfInBounds_toArray, set_cons_zero, set_cons_succ, i64_w, i32_w]; rfl)
           refine pure_ (i := 26) (N := some 76) (v := ?_) (a' := ?_) (bl_41 34 99074047) rfl rfl (any_of HT_.out (by kernel_rfl)) (fun _ _ _ h => h) (Or.inl ⟨by rfl, ?_⟩) ?_ ?_; rotate_left; (· intro w'; go_simp; with_reducible rfl); rotate_left; (· simp only [Act.put, setIfInBounds_toArray, set_cons_zero, set_cons_succ, i64_w, i32_w]; rfl)
           refine pure_ (i := 27) (N := some 77) (v := ?_) (a' := ?_) (bl_41 34 233291775) rfl rfl (any_of HT_.out (by kernel_rfl)) (fun _ _ _ h => h) (Or.inl ⟨by rfl, ?_⟩) ?_ ?_; rotate_left; (· intro w'; go_simp; with_reducible rfl); rotate_left; (· simp only [Act.put, setIfInBounds_toArray, set_cons_zero, set_cons_succ, i64_w, i32_w]; rfl)
           refine pure_ (i := 28) (N := some 78) (v := ?_) (a' := ?_) (bl_41 34 501727231) rfl rfl (any_of HT_.out (by kernel_rfl)) (fun _ _ _ h => h) (Or.inl ⟨by rfl, ?_⟩) ?_ ?_; rotate_left; (· intro w'; go_simp; with_reducible rfl); rotate_left; (· simp only [Act.put, setIfInBounds_toArray, set_cons_zero, set_cons_succ, i64_w, i32_w]; rfl)
           refine pure_ (i := 29) (N := some 79) (v := ?_) (a' := ?_) (bl_41 34 1038598143) rfl rfl (any_of HT_.out (by kernel_rfl)) (fun _ _ _ h => h) (Or.inl ⟨by rfl, ?_⟩) ?_ ?_; rotate_left; (· intro w'; go_simp; with_reducible rfl); rotate_left; (· simp only [Act.put, setIfInBounds_toArray, set_cons_zero, set_cons_succ, i64_w, i32_w]; rfl)
           refine take_ (i := 14) (N := some 64) (v := ?_) (a' := ?_) (bl_41 34 1038614527) rfl rfl (take_ofW HT_.out HW_.out (by kernel_rfl)) (fun _ _ _ h => h) (Or.inl ⟨by rfl, ?_⟩) hHeld ?_ ?_; rotate_left; (· rintro w' ⟨s0, s1, s2, s3, s4, s5, s6, s7, s8, s9, s10, s11⟩; go_simp; with_reducible rfl); rotate_left; (· simp only [Act.put, setIfInBounds_toArray, set_cons_zero, set_cons_succ, i64_w, i32_w]; rfl)
           refine take_ (i := 19) (N := some 69) (v := ?_) (a' := ?_) (bl_41 34 1039138815) rfl rfl (take_ofW HT_.out HW_.out (by kernel_rfl)) (fun _ _ _ h => h) (Or.inl ⟨by rfl, ?_⟩) hHeld ?_ ?_; rotate_left; (· rintro w' ⟨s0, s1, s2, s3, s4, s5, s6, s7, s8, s9, s10, s11⟩; go_simp; with_reducible rfl); rotate_left; (· simp only [Act.put, setIfInBounds_toArray, set_cons_zero, set_cons_succ, i64_w, i32_w]; rfl)
           refine take_ (i := 25) (N := some 75) (v := ?_) (a' := ?_) (bl_41 34 1072693247) rfl rfl (take_ofW HT_.out HW_.out (by kernel_rfl)) (fun _ _ _ h => h) (Or.inl ⟨by rfl, ?_⟩) hHeld ?_ ?_; rotate_left; (· rintro w' ⟨s0, s1, s2, s3, s4, s5, s6, s7, s8, s9, s10, s11⟩; go_simp; with_reducible rfl); rotate_left; (· simp only [Act.put, setIfInBounds_toArray, set_cons_zero, set_cons_succ, i64_w, i32_w]; rfl)
           refine take_ (i := 30) (N := some 80) (v := ?_) (a' := ?_) (bl_41 34 2146435071) rfl rfl (take_ofW HT_.out HW_.out (by kernel_rfl)) (fun _ _ _ h => h) (Or.inl ⟨by rfl, ?_⟩) hHeld ?_ ?_; rotate_left; (· rintro w' ⟨s0, s1, s2, s3, s4, s5, s6, s7, s8, s9, s10, s11⟩; go_simp; with_reducible rfl); rotate_left; (· simp only [Act.put, setIfInBounds_toArray, set_cons_zero, set_cons_succ, i64_w, i32_w]; rfl)
           refine one_ (i := 20) (N := some 70) (bl_41 34 2147483647) rfl rfl (one_of HT_.out (by kernel_rfl)) (by decide) (fun K hK => ?_)
           refine goes_ Try.func26 (by kernel_rfl) rfl #[.int .u64 ((rd_T59 t279 x11_2).f0), .int .u64 ((rd_T59 t279 x11_2).f1)] (by rfl) rfl rfl (by (try simp only [map_toArray, map_cons, map_nil]); first | done | rfl) ?_
           with_reducible refine (paroleref03_Join.calls ((rd_T59 t279 x11_2).f0) ((rd_T59 t279 x11_2).f1) t297 _ A52.out).mono ?_
           rintro e w' ⟨rfl, ⟨nd, rfl⟩⟩
           refine ⟨_, rfl, ?_⟩
           refine hK.out _ _ ⟨hHeld.1, hHeld.2.1, hHeld.2.2.1, hHeld.2.2.2.1, hHeld.2.2.2.2.1, hHeld.2.2.2.2.2.1, hHeld.2.2.2.2.2.2.1, hHeld.2.2.2.2.2.2.2.1, hHeld.2.2.2.2.2.2.2.2.1, hHeld.2.2.2.2.2.2.2.2.2.1, hHeld.2.2.2.2.2.2.2.2.2.2.1, hHeld.2.2.2.2.2.2.2.2.2.2.2⟩ (fun hHeld => ?_)
           clear hK K
           refine norm_ (a' := ?_) ?_ ?_
           rotate_left
           ·
            show Act.put _ (some 70) _ = _
            simp only [Act.put, setIfInBounds_toArray, set_cons_zero, set_cons_succ, i64_w, i32_w]
            rfl
           refine one_ (i := 31) (N := some 81) (bl_41 34 4294967295) rfl rfl (one_of HT_.out (by kernel_rfl)) (by decide) (fun K hK => ?_)
           refine goes_ Try.func26 (by kernel_rfl) rfl #[.int .u64 ((rd_T59 t282 x11_2).f0), .int .u64 ((rd_T59 t282 x11_2).f1)] (by rfl) rfl rfl (by (try simp only [map_toArray, map_cons, map_nil]); first | done | rfl) ?_
           with_reducible refine (paroleref03_Join.calls ((rd_T59 t282 x11_2).f0) ((rd_T59 t282 x11_2).f1) t300 _ A53.out).mono ?_
           rintro e w' ⟨rfl, ⟨nd, rfl⟩⟩
           refine ⟨_, rfl, ?_⟩
           refine hK.out _ _ ⟨hHeld.1, hHeld.2.1, hHeld.2.2.1, hHeld.2.2.2.1, hHeld.2.2.2.2.1, hHeld.2.2.2.2.2.1, hHeld.2.2.2.2.2.2.1, hHeld.2.2.2.2.2.2.2.1, hHeld.2.2.2.2.2.2.2.2.1, hHeld.2.2.2.2.2.2.2.2.2.1, hHeld.2.2.2.2.2.2.2.2.2.2.1, hHeld.2.2.2.2.2.2.2.2.2.2.2⟩ (fun hHeld => ?_)
           clear hK K
           refine norm_ (a' := ?_) ?_ ?_
           rotate_left
           ·
            show Act.put _ (some 81) _ = _
            simp only [Act.put, setIfInBounds_toArray, set_cons_zero, set_cons_succ, i64_w, i32_w]
            rfl
           refine pure_ (i := 32) (N := some 82) (v := ?_) (a' := ?_) (bl_41 34 8589934591) rfl rfl (any_of HT_.out (by kernel_rfl)) (fun _ _ _ h => h) (Or.inl ⟨by rfl, ?_⟩) ?_ ?_; rotate_left; (· intro w'; go_simp; with_reducible rfl); rotate_left; (· simp only [Act.put, setIfInBounds_toArray, set_cons_zero, set_cons_succ, i64_w, i32_w]; rfl)
           refine pure_ (i := 33) (N := some 83) (v := ?_) (a' := ?_) (bl_41 34 17179869183) rfl rfl (any_of HT_.out (by kernel_rfl)) (fun _ _ _ h => h) (Or.inl ⟨by rfl, ?_⟩) ?_ ?_; rotate_left; (· intro w'; go_simp; with_reducible rfl); rotate_left; (· simp only [Act.put, setIfInBounds_toArray, set_cons_zero, set_cons_succ, i64_w, i32_w]; rfl)
           refine done_ (done_of HT_.out (by kernel_rfl)) ?_
           try go_wp2
           go_roundg k2
           case measure => have := HJ4.out; have := HK2.out; omega
           case rel => exact ⟨(wrap64 (x11_2 + 1)), (x275000_2), (x275001_2), (x275002_2), (x275003_2), (x275004_2), (by first | rfl | (simp; done) | (simp [*]; done)), H', ⟨by have := HJ4.out; have := HK2.out; omega⟩, ⟨by (with_reducible repeat (first | apply Kd.R_alloc | apply Kd.R_drewN | apply Kd.R_drew)); exact HO_9.out⟩, ⟨by (with_reducible repeat (first | apply Kd.R_alloc | apply Kd.R_drewN | apply Kd.R_drew)); exact HO_10.out⟩, ⟨by (with_reducible repeat (first | refine blk_drewN ?_ _ | refine blk_drew ?_ | refine blk_alloc ?_ _)); exact BK272.out⟩, ⟨by (with_reducible repeat (first | refine blk_drewN ?_ _ | refine blk_drew ?_ | refine blk_alloc ?_ _)); exact BK273.out⟩, ⟨by (with_reducible repeat (first | refine blk_drewN ?_ _ | refine blk_drew ?_ | refine blk_alloc ?_ _)); exact BK274.out⟩, ⟨by repeat (first | (with_reducible first | exact HB.out | apply below_alloc | apply pw_below_drewN | apply below_drew1 | refine below_set ?_ GE272.out | refine below_set ?_ GE273.out | refine below_set ?_ GE274.out) | exact HB.out)⟩⟩
        ·
         rw [if_neg c31] at H
         exact absurd H (by simp)
       ·
        rw [if_neg c30] at H
        exact absurd H (by simp)
      ·
       rw [if_neg c29] at H
       have c29b0 : decide (x11_2 < (t279.length : Int)) = false := decide_eq_false c29
       clear c29
       simp only [Option.some.injEq, Prod.mk.injEq] at H
       obtain ⟨rfl, rfl, rfl, rfl, rfl⟩ := H
       obtain ⟨Ao67, co67, eo67⟩ := Kd.R_slice HO_9.out
       subst eo67
       have hnb68 := NB274_272.out
       have hnc68 := NB272_274.out
       have hnb69 := NB274_273.out
       have hnc69 := NB273_274.out
       have hcz70_0 : wr.cell? ⟨gb274, 0, none⟩ = some (.int .u64 x275000_2) := (blk_cell BK274.out 0).trans rfl
       have hcz70_1 : wr.cell? ⟨gb274, 1, none⟩ = some (.int .u64 x275001_2) := (blk_cell BK274.out 1).trans rfl
       have hcz70_2 : wr.cell? ⟨gb274, 2, none⟩ = some (.int .u64 x275002_2) := (blk_cell BK274.out 2).trans rfl
       have hcz70_3 : wr.cell? ⟨gb274, 3, none⟩ = some (.int .u64 x275003_2) := (blk_cell BK274.out 3).trans rfl
       have hcz70_4 : wr.cell? ⟨gb274, 4, none⟩ = some (.bool x275004_2) := (blk_cell BK274.out 4).trans rfl
       have hfz70_0 := blk_frozen BK274.out 0
       have hfz70_1 := blk_frozen BK274.out 1
       have hfz70_2 := blk_frozen BK274.out 2
       have hfz70_3 := blk_frozen BK274.out 3
       have hfz70_4 := blk_frozen BK274.out 4
       go_wp2
       refine bodyPost_ret (results_cell_row rfl _ _ gb274 64 #[.int .u64 0, .int .u64 0, .int .u64 0, .int .u64 0, .bool false] (0, 0) _ rfl (by (with_reducible repeat (first | refine blk_drewN ?_ _ | refine blk_drew ?_ | refine blk_alloc ?_ _)); refine blk_put (cs := #[.int .u64 0, .int .u64 0, .int .u64 0, .int .u64 0, .bool x275004_2]) ?_ 4 _ rfl; (with_reducible repeat (first | refine blk_drewN ?_ _ | refine blk_drew ?_ | refine blk_alloc ?_ _)); refine blk_put (cs := #[.int .u64 0, .int .u64 0, .int .u64 0, .int .u64 x275003_2, .bool x275004_2]) ?_ 3 _ rfl; (with_reducible repeat (first | refine blk_drewN ?_ _ | refine blk_drew ?_ | refine blk_alloc ?_ _)); refine blk_put (cs := #[.int .u64 0, .int .u64 0, .int .u64 x275002_2, .int .u64 x275003_2, .bool x275004_2]) ?_ 2 _ rfl; (with_reducible repeat (first | refine blk_drewN ?_ _ | refine blk_drew ?_ | refine blk_alloc ?_ _)); refine blk_put (cs := #[.int .u64 0, .int .u64 x275001_2, .int .u64 x275002_2, .int .u64 x275003_2, .bool x275004_2]) ?_ 1 _ rfl; (with_reducible repeat (first | refine blk_drewN ?_ _ | refine blk_drew ?_ | refine blk_alloc ?_ _)); refine blk_put (cs := #[.int .u64 x275000_2, .int .u64 x275001_2, .int .u64 x275002_2, .int .u64 x275003_2, .bool x275004_2]) ?_ 0 _ rfl; (with_reducible repeat (first | refine blk_drewN ?_ _ | refine blk_drew ?_ | refine blk_alloc ?_ _)); exact BK274.out) Try.underlying64 rfl (by kernel_rfl)) rfl ?_
       exact ⟨by first | rfl | (simp [errW_none, errW_some] <;> rfl) | (simp [*, errW_none, errW_some] <;> rfl), by repeat (first | (with_reducible first | exact HB.out | apply below_alloc | apply pw_below_drewN | apply below_drew1 | refine below_set ?_ GE272.out | refine below_set ?_ GE273.out | refine below_set ?_ GE274.out) | exact HB.out)⟩

end Go.Proofs.Ytikicibbbeofnaa.MR
