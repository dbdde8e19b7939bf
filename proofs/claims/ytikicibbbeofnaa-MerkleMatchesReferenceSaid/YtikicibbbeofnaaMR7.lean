-- Written by wip/hprint.py (this session's) with the kit's printer and contracts of our own. Not trusted: Lean checks it.
import Derived.Test.YtikicibbbeofnaaMR0
import Derived.Test.YtikicibbbeofnaaMR1
import Derived.Test.YtikicibbbeofnaaMR2
namespace Go.Proofs.Ytikicibbbeofnaa.MR
open List (setIfInBounds_toArray set_cons_zero set_cons_succ map_toArray map_cons map_nil)
open Go.RowKit Go.Proofs.YtikicibbbeofnaaW.PrintWords Go.Proofs.YtikicibbbeofnaaW.PrintLast Go.Proofs.YtikicibbbeofnaaW.PrintMore
attribute [local go_sem] max2_int min2_int max_two min_two max_three min_three max_four min_four   -- for this text's walks alone
set_option linter.unusedVariables false
set_option linter.unusedSimpArgs false

def bl_40 (n m : Nat) : Array Bool := ((List.range n).map fun i => m.testBit i).toArray
/-! ### merkle_Collide: function 40 -/
mutual
def merkle_Collide.l0 : Nat → List (S59) → Bool → List (S59) → Bool → Int → Option (Int × Int × Int × Int × Bool)
 | 0, _, _, _, _, _ => none
 | k + 1, x10, x11, x12, x13, x14 => if x11 = true then (if x13 = true then (merkle_Collide.j1 k x10 x11 x12 x13 x14 (decide (x14 < (x10.length : Int)))) else (merkle_Collide.j1 k x10 x11 x12 x13 x14 false)) else (merkle_Collide.j1 k x10 x11 x12 x13 x14 false)
def merkle_Collide.j1 : Nat → List (S59) → Bool → List (S59) → Bool → Int → Bool → Option (Int × Int × Int × Int × Bool)
 | 0, _, _, _, _, _, _ => none
 | k + 1, x10, x11, x12, x13, x14, x49 => if x49 = true then (if 0 ≤ x14 then (if x14 < (x10.length : Int) then (if x14 < (x12.length : Int) then (if ((rd_T59 x10 x14).f0) = ((rd_T59 x12 x14).f0) then (if ((rd_T59 x10 x14).f1) = ((rd_T59 x12 x14).f1) then (merkle_Collide.l0 k x10 x11 x12 x13 (wrap64 (x14 + 1))) else ((digest_Join.f ((rd_T59 x10 x14).f0) ((rd_T59 x10 x14).f1)).bind fun t258 => ((digest_Join.f ((rd_T59 x12 x14).f0) ((rd_T59 x12 x14).f1)).bind fun t261 => (if t258 = t261 then (some ((rd_T59 x10 x14).f0, (rd_T59 x10 x14).f1, (rd_T59 x12 x14).f0, (rd_T59 x12 x14).f1, true)) else (merkle_Collide.l0 k x10 x11 x12 x13 (wrap64 (x14 + 1))))))) else ((digest_Join.f ((rd_T59 x10 x14).f0) ((rd_T59 x10 x14).f1)).bind fun t266 => ((digest_Join.f ((rd_T59 x12 x14).f0) ((rd_T59 x12 x14).f1)).bind fun t269 => (if t266 = t269 then (some ((rd_T59 x10 x14).f0, (rd_T59 x10 x14).f1, (rd_T59 x12 x14).f0, (rd_T59 x12 x14).f1, true)) else (merkle_Collide.l0 k x10 x11 x12 x13 (wrap64 (x14 + 1))))))) else (none)) else (none)) else (none)) else (some (0, 0, 0, 0, false))
end
def merkle_Collide.f (k : Nat) (a0 : Int) (a1 : Int) (a2_0 : Int) (l2_1 : List Int) (a3_0 : Int) (l3_1 : List Int) : Option (Int × Int × Int × Int × Bool) := (merkle_place.f a0 a1).bind fun t245 => (if t245 = 0 then ((merkle_pairs.f a0 a1 a2_0 l2_1).bind fun bt246 => ((merkle_pairs.f a0 a1 a3_0 l3_1).bind fun bt250 => (merkle_Collide.l0 k bt246.1 bt246.2 bt250.1 bt250.2 0))) else (some (0, 0, 0, 0, false)))
theorem merkle_Collide.mono_l : ∀ k, (∀ y0 y1 y2 y3 y4, LeO (merkle_Collide.l0 k y0 y1 y2 y3 y4) (merkle_Collide.l0 (k + 1) y0 y1 y2 y3 y4)) ∧ (∀ y0 y1 y2 y3 y4 y5, LeO (merkle_Collide.j1 k y0 y1 y2 y3 y4 y5) (merkle_Collide.j1 (k + 1) y0 y1 y2 y3 y4 y5))
 | 0 => ⟨fun _ _ _ _ _ r h => by simp [merkle_Collide.l0] at h, fun _ _ _ _ _ _ r h => by simp [merkle_Collide.j1] at h⟩
 | k + 1 => by
  obtain ⟨ih0, ih1⟩ := merkle_Collide.mono_l k
  refine ⟨?_, ?_⟩
  ·
   intro y0 y1 y2 y3 y4
   unfold merkle_Collide.l0
   repeat' first
   | (with_reducible exact ih0 _ _ _ _ _)
   | (with_reducible exact ih1 _ _ _ _ _ _)
   | (with_reducible exact LeO.refl _)
   | (with_reducible exact LeO.none _)
   | (with_reducible refine LeO.ite ?_ ?_)
   | (with_reducible refine LeO.bind ?_ (fun _ => ?_))
   | exact ih0 _ _ _ _ _
   | exact ih1 _ _ _ _ _ _
   | exact LeO.none _
   | refine LeO.ite ?_ ?_
   | refine LeO.bind ?_ (fun _ => ?_)
  ·
   intro y0 y1 y2 y3 y4 y5
   unfold merkle_Collide.j1
   repeat' first
   | (with_reducible exact ih0 _ _ _ _ _)
   | (with_reducible exact ih1 _ _ _ _ _ _)
   | (with_reducible exact LeO.refl _)
   | (with_reducible exact LeO.none _)
   | (with_reducible refine LeO.ite ?_ ?_)
   | (with_reducible refine LeO.bind ?_ (fun _ => ?_))
   | exact ih0 _ _ _ _ _
   | exact ih1 _ _ _ _ _ _
   | exact LeO.none _
   | refine LeO.ite ?_ ?_
   | refine LeO.bind ?_ (fun _ => ?_)
theorem merkle_Collide.mono : ∀ a0 a1 a2 a3 a4 a5 k, LeO (merkle_Collide.f k a0 a1 a2 a3 a4 a5) (merkle_Collide.f (k + 1) a0 a1 a2 a3 a4 a5) := by
 intro a0 a1 a2 a3 a4 a5 k
 obtain ⟨ih0, ih1⟩ := merkle_Collide.mono_l k
 unfold merkle_Collide.f
 repeat' first
   | (with_reducible exact ih0 _ _ _ _ _)
   | (with_reducible exact ih1 _ _ _ _ _ _)
   | (with_reducible exact LeO.refl _)
   | (with_reducible exact LeO.none _)
   | (with_reducible refine LeO.ite ?_ ?_)
   | (with_reducible refine LeO.bind ?_ (fun _ => ?_))
   | exact ih0 _ _ _ _ _
   | exact ih1 _ _ _ _ _ _
   | exact LeO.none _
   | refine LeO.ite ?_ ?_
   | refine LeO.bind ?_ (fun _ => ?_)
def merkle_Collide.T8 : Bool × List (List Nat × List Nat) := (true, [([], []), ([], []), ([0, 1], [0, 1]), ([2], [2]), ([], []), ([], []), ([4, 5], [4, 5]), ([6], [6]), ([3, 7], [3, 7]), ([8], [8]), ([9], [9]), ([9], [9]), ([10, 11, 9], [9, 10, 11]), ([12, 9], [9, 12]), ([13, 9], [9, 13]), ([9], [9]), ([9], [9]), ([15, 16, 9], [9, 15, 16]), ([17, 9], [9, 17]), ([18, 9], [9, 18]), ([14, 19, 9, 9], [9, 14, 19]), ([9], [9]), ([9], [9]), ([21, 22, 9], [9, 21, 22]), ([23, 9], [9, 23]), ([24, 9], [9, 24]), ([9], [9]), ([9], [9]), ([26, 27, 9], [9, 26, 27]), ([28, 9], [9, 28]), ([29, 9], [9, 29]), ([25, 30, 20, 9], [9, 25, 30]), ([20, 31, 9], [9, 20, 31]), ([9, 32], [9, 32])])
def merkle_Collide.B8 : List Nat := [0, 0, 3, 7, 0, 0, 48, 112, 255, 511, 1023, 1023, 4095, 8191, 16383, 1023, 1023, 99327, 230399, 492543, 1048575, 1023, 1023, 6292479, 14681087, 31458303, 1023, 1023, 201327615, 469763071, 1006633983, 2147483647, 4294967295, 8589934591]
theorem merkle_Collide.tab8 : rtab .any (opsOf Try.f40 8) = merkle_Collide.T8 := by kernel_rfl
theorem merkle_Collide.bits8 : waitsOk merkle_Collide.T8.2 merkle_Collide.B8 = true := by kernel_rfl
def merkle_Collide.T9 : Bool × List (List Nat × List Nat) := (true, [([], []), ([], []), ([0, 1], [0, 1]), ([2], [2]), ([], []), ([], []), ([4, 5], [4, 5]), ([6], [6]), ([3, 7], [3, 7]), ([8, 0, 1, 2, 3, 4, 5, 6, 7, 8], [8]), ([9, 0, 1, 2, 3, 4, 5, 6, 7, 8, 9], [])])
def merkle_Collide.B9 : List Nat := [0, 0, 3, 7, 0, 0, 48, 112, 255, 511, 1023]
theorem merkle_Collide.tab9 : rtab .any (opsOf Try.f40 9) = merkle_Collide.T9 := by kernel_rfl
theorem merkle_Collide.bits9 : waitsOk merkle_Collide.T9.2 merkle_Collide.B9 = true := by kernel_rfl
set_option maxHeartbeats 8000000 in
set_option maxRecDepth 100000 in
theorem merkle_Collide.calls (k : Nat) (a0 : Int) (a1 : Int) (a2_0 : Int) (A2_1 : Option Addr) (c2_1 : Nat) (l2_1 : List Int) (a3_0 : Int) (A3_1 : Option Addr) (c3_1 : Nat) (l3_1 : List Int) (r1 : Int) (r2 : Int) (r3 : Int) (r4 : Int) (r5 : Bool) (w : World) (hr2_1 : Kd.C (Kd.int .u64) w A2_1 l2_1.length l2_1) (hc2_1 : l2_1.length ≤ c2_1) (hr3_1 : Kd.C (Kd.int .u64) w A3_1 l3_1.length l3_1) (hc3_1 : l3_1.length ≤ c3_1) (h : merkle_Collide.f k a0 a1 a2_0 l2_1 a3_0 l3_1 = some (r1, r2, r3, r4, r5)) :
  Calls Try.prog 40 #[.int .i64 a0, .int .i64 a1, .agg #[.int .u64 a2_0, .slice A2_1 l2_1.length c2_1], .agg #[.int .u64 a3_0, .slice A3_1 l3_1.length c3_1]] w fun e w' => e = .returned (.tuple #[.agg #[.int .u64 r1, .int .u64 r2, .int .u64 r3, .int .u64 r4], .bool r5]) ∧ Below w.heap.size w w' := by
 have hu50 := Try.underlying50
 have hu60 := Try.underlying60
 have hu59 := Try.underlying59
 have HR2_1 := Aside0.mk hr2_1
 have HC2_1 := Aside0.mk hc2_1
 clear hr2_1 hc2_1
 have HR3_1 := Aside0.mk hr3_1
 have HC3_1 := Aside0.mk hc3_1
 clear hr3_1 hc3_1
 have HB := Aside0.mk (Below.refl w.heap.size w)
 have H : ((merkle_place.f a0 a1).bind fun t245 => (if t245 = 0 then ((merkle_pairs.f a0 a1 a2_0 l2_1).bind fun bt246 => ((merkle_pairs.f a0 a1 a3_0 l3_1).bind fun bt250 => (merkle_Collide.l0 k bt246.1 bt246.2 bt250.1 bt250.2 0))) else (some (0, 0, 0, 0, false)))) = some (r1, r2, r3, r4, r5) := h
 clear h
 replace H := Option.bind_eq_some_iff.mp H
 obtain ⟨t245, A50, H⟩ := H
 replace H : (if t245 = 0 then ((merkle_pairs.f a0 a1 a2_0 l2_1).bind fun bt246 => ((merkle_pairs.f a0 a1 a3_0 l3_1).bind fun bt250 => (merkle_Collide.l0 k bt246.1 bt246.2 bt250.1 bt250.2 0))) else (some (0, 0, 0, 0, false))) = some (r1, r2, r3, r4, r5) := H
 have A5 := Aside0.mk A50
 clear A50
 by_cases c6 : t245 = 0
 ·
  rw [if_pos c6] at H
  have c6b0 : (t245 == 0) = true := beq_iff_eq.mpr c6
  have c6b1 : (t245 != 0) = false := bne_eq_false_iff_eq.mpr c6
  clear c6
  replace H := Option.bind_eq_some_iff.mp H
  obtain ⟨⟨t246, t247⟩, A70, H⟩ := H
  replace H : ((merkle_pairs.f a0 a1 a3_0 l3_1).bind fun bt250 => (merkle_Collide.l0 k t246 t247 bt250.1 bt250.2 0)) = some (r1, r2, r3, r4, r5) := H
  have A7 := Aside0.mk A70
  clear A70
  replace H := Option.bind_eq_some_iff.mp H
  obtain ⟨⟨t250, t251⟩, A80, H⟩ := H
  replace H : (merkle_Collide.l0 k t246 t247 t250 t251 0) = some (r1, r2, r3, r4, r5) := H
  have A8 := Aside0.mk A80
  clear A80
  have H' := Aside0.mk H
  clear H
  go_enter Try.func40, Try.ntmps40
  go_wp2_with (first | ((with_reducible refine gate_dst (N := 6) rfl ?_); (try (refine gate_guard (by rfl) ?_; dsimp only)); refine box_event ?hg (N := 6) ?hd (cs := #[.int .u64 a2_0, .slice A2_1 l2_1.length c2_1]) (t := 50) ?hr ?_; (case hd => rfl); (case hg => rfl); (case hr => first | (go_simp; done) | (go_simp; rfl)); intro gb242 hg w9 hbox hb; have n0_ := Aside0.mk (below_step (by repeat (first | (with_reducible first | exact HB.out | apply below_alloc | apply pw_below_drewN | apply below_drew1) | exact HB.out)) hb); have n1_ := Aside0.mk (hbox); have n2_ := Aside0.mk ((by rw [hg]; exact (below_size (by repeat (first | (with_reducible first | exact HB.out | apply below_alloc | apply pw_below_drewN | apply below_drew1) | exact HB.out))) : w.heap.size ≤ gb242)); have n3_ := Aside0.mk ((by rw [hg]; exact (below_size (by repeat (first | (with_reducible first | exact HB.out | apply below_alloc | apply pw_below_drewN | apply below_drew1) | exact HB.out))) : w.heap.size ≤ gb242)); clear HB; have HB := n0_; have BK242 := n1_; have GW242 := n2_; have GE242 := n3_; clear n0_ n1_ n2_ n3_; clear hb hbox hg) | ((with_reducible refine gate_dst (N := 7) rfl ?_); (try (refine gate_guard (by rfl) ?_; dsimp only)); refine box_event ?hg (N := 7) ?hd (cs := #[.int .u64 a3_0, .slice A3_1 l3_1.length c3_1]) (t := 50) ?hr ?_; (case hd => rfl); (case hg => rfl); (case hr => first | (go_simp; done) | (go_simp; rfl)); intro gb243 hg w10 hbox hb; have n0_ := Aside0.mk (blk_below (g := gb242) (o := .cells #[.int .u64 a2_0, .slice A2_1 l2_1.length c2_1] 50 (0, 0)) (by (with_reducible repeat (first | refine blk_drewN ?_ _ | refine blk_drew ?_ | refine blk_alloc ?_ _)); exact BK242.out) hb); have n1_ := Aside0.mk (below_step (by repeat (first | (with_reducible first | exact HB.out | apply below_alloc | apply pw_below_drewN | apply below_drew1 | refine below_set ?_ GE242.out) | exact HB.out)) hb); have n2_ := Aside0.mk (hbox); have n3_ := Aside0.mk ((by rw [hg]; exact (below_size (by repeat (first | (with_reducible first | exact HB.out | apply below_alloc | apply pw_below_drewN | apply below_drew1 | refine below_set ?_ GE242.out) | exact HB.out))) : w.heap.size ≤ gb243)); have n4_ := Aside0.mk ((by rw [hg]; exact (below_size (by repeat (first | (with_reducible first | exact HB.out | apply below_alloc | apply pw_below_drewN | apply below_drew1 | refine below_set ?_ GE242.out) | exact HB.out))) : w.heap.size ≤ gb243)); have n5_ := Aside0.mk ((by rw [hg]; exact Nat.ne_of_lt (blk_lt (g := gb242) (o := .cells #[.int .u64 a2_0, .slice A2_1 l2_1.length c2_1] 50 (0, 0)) (by (with_reducible repeat (first | refine blk_drewN ?_ _ | refine blk_drew ?_ | refine blk_alloc ?_ _)); exact BK242.out)) : gb242 ≠ gb243)); have n6_ := Aside0.mk ((by rw [hg]; exact Nat.ne_of_gt (blk_lt (g := gb242) (o := .cells #[.int .u64 a2_0, .slice A2_1 l2_1.length c2_1] 50 (0, 0)) (by (with_reducible repeat (first | refine blk_drewN ?_ _ | refine blk_drew ?_ | refine blk_alloc ?_ _)); exact BK242.out)) : gb243 ≠ gb242)); clear BK242; clear HB; have BK242 := n0_; have HB := n1_; have BK243 := n2_; have GW243 := n3_; have GE243 := n4_; have NB242_243 := n5_; have NB243_242 := n6_; clear n0_ n1_ n2_ n3_ n4_ n5_ n6_; clear hb hbox hg) | ((with_reducible refine gate_dst (N := 8) rfl ?_); (try (refine gate_guard (by rfl) ?_; dsimp only)); refine box_event ?hg (N := 8) ?hd (cs := #[.int .u64 0, .int .u64 0, .int .u64 0, .int .u64 0]) (t := 60) ?hr ?_; (case hd => rfl); (case hg => rfl); (case hr => first | (go_simp; done) | (go_simp; rfl)); intro gb244 hg w11 hbox hb; have n0_ := Aside0.mk (blk_below (g := gb242) (o := .cells #[.int .u64 a2_0, .slice A2_1 l2_1.length c2_1] 50 (0, 0)) (by (with_reducible repeat (first | refine blk_drewN ?_ _ | refine blk_drew ?_ | refine blk_alloc ?_ _)); exact BK242.out) hb); have n1_ := Aside0.mk (blk_below (g := gb243) (o := .cells #[.int .u64 a3_0, .slice A3_1 l3_1.length c3_1] 50 (0, 0)) (by (with_reducible repeat (first | refine blk_drewN ?_ _ | refine blk_drew ?_ | refine blk_alloc ?_ _)); exact BK243.out) hb); have n2_ := Aside0.mk (below_step (by repeat (first | (with_reducible first | exact HB.out | apply below_alloc | apply pw_below_drewN | apply below_drew1 | refine below_set ?_ GE242.out | refine below_set ?_ GE243.out) | exact HB.out)) hb); have n3_ := Aside0.mk (hbox); have n4_ := Aside0.mk ((by rw [hg]; exact (below_size (by repeat (first | (with_reducible first | exact HB.out | apply below_alloc | apply pw_below_drewN | apply below_drew1 | refine below_set ?_ GE242.out | refine below_set ?_ GE243.out) | exact HB.out))) : w.heap.size ≤ gb244)); have n5_ := Aside0.mk ((by rw [hg]; exact (below_size (by repeat (first | (with_reducible first | exact HB.out | apply below_alloc | apply pw_below_drewN | apply below_drew1 | refine below_set ?_ GE242.out | refine below_set ?_ GE243.out) | exact HB.out))) : w.heap.size ≤ gb244)); have n6_ := Aside0.mk ((by rw [hg]; exact Nat.ne_of_lt (blk_lt (g := gb242) (o := .cells #[.int .u64 a2_0, .slice A2_1 l2_1.length c2_1] 50 (0, 0)) (by (with_reducible repeat (first | refine blk_drewN ?_ _ | refine blk_drew ?_ | refine blk_alloc ?_ _)); exact BK242.out)) : gb242 ≠ gb244)); have n7_ := Aside0.mk ((by rw [hg]; exact Nat.ne_of_gt (blk_lt (g := gb242) (o := .cells #[.int .u64 a2_0, .slice A2_1 l2_1.length c2_1] 50 (0, 0)) (by (with_reducible repeat (first | refine blk_drewN ?_ _ | refine blk_drew ?_ | refine blk_alloc ?_ _)); exact BK242.out)) : gb244 ≠ gb242)); have n8_ := Aside0.mk ((by rw [hg]; exact Nat.ne_of_lt (blk_lt (g := gb243) (o := .cells #[.int .u64 a3_0, .slice A3_1 l3_1.length c3_1] 50 (0, 0)) (by (with_reducible repeat (first | refine blk_drewN ?_ _ | refine blk_drew ?_ | refine blk_alloc ?_ _)); exact BK243.out)) : gb243 ≠ gb244)); have n9_ := Aside0.mk ((by rw [hg]; exact Nat.ne_of_gt (blk_lt (g := gb243) (o := .cells #[.int .u64 a3_0, .slice A3_1 l3_1.length c3_1] 50 (0, 0)) (by (with_reducible repeat (first | refine blk_drewN ?_ _ | refine blk_drew ?_ | refine blk_alloc ?_ _)); exact BK243.out)) : gb244 ≠ gb243)); clear BK242; clear BK243; clear HB; have BK242 := n0_; have BK243 := n1_; have HB := n2_; have BK244 := n3_; have GW244 := n4_; have GE244 := n5_; have NB242_244 := n6_; have NB244_242 := n7_; have NB243_244 := n8_; have NB244_243 := n9_; clear n0_ n1_ n2_ n3_ n4_ n5_ n6_ n7_ n8_ n9_; clear hb hbox hg) | ((with_reducible refine gate_callee (f := 54) rfl ?_); refine goesL_ (some 17) rfl rfl Try.func54 (by kernel_rfl) rfl #[.int .i64 a0, .int .i64 a1] rfl (by (try simp only [map_toArray, map_cons, map_nil]); first | done | rfl) ?_; (with_reducible refine (merkle_place.calls a0 a1 t245 _ A5.out).mono ?_); rintro e w' ⟨rfl, ⟨nd, rfl⟩⟩; refine ⟨_, rfl, ?_⟩; have hnb12 := NB242_243.out; have hnc12 := NB243_242.out; have hnb13 := NB242_244.out; have hnc13 := NB244_242.out; have hcz14_0 : w11.cell? ⟨gb242, 0, none⟩ = some (.int .u64 a2_0) := (blk_cell BK242.out 0).trans rfl; have hcz14_1 : w11.cell? ⟨gb242, 1, none⟩ = some (.slice A2_1 l2_1.length c2_1) := (blk_cell BK242.out 1).trans rfl; have hfz14_0 := blk_frozen BK242.out 0; have hfz14_1 := blk_frozen BK242.out 1) | ((with_reducible refine gate_callee (f := 55) rfl ?_); refine goesL_ (some 27) rfl rfl Try.func55 (by kernel_rfl) rfl #[.int .i64 a0, .int .i64 a1, .int .u64 a2_0, .slice A2_1 l2_1.length c2_1] rfl (by (try simp only [map_toArray, map_cons, map_nil]); first | done | rfl) ?_; (with_reducible refine (merkle_pairs.calls a0 a1 a2_0 _ _ l2_1 t246 t247 _ ?side1 ?side2 A7.out).mono ?_); (case side1 => repeat (first | exact (Kd.C_below HR2_1.out (by repeat (first | (with_reducible first | exact HB.out | apply below_alloc | apply pw_below_drewN | apply below_drew1 | refine below_set ?_ GE242.out | refine below_set ?_ GE243.out | refine below_set ?_ GE244.out) | exact HB.out))) | (with_reducible refine Kd.C_alloc ?_ _) | (with_reducible refine Kd.C_drewN ?_ _) | (with_reducible refine Kd.C_drew ?_))); (case side2 => exact HC2_1.out); rintro e w15 ⟨v248, rfl, ho0, hb⟩; refine ⟨_, rfl, ?_⟩; have n0_ := Aside0.mk (Kd.R_lower ho0 (below_size (by repeat (first | (with_reducible first | exact HB.out | apply below_alloc | apply pw_below_drewN | apply below_drew1 | refine below_set ?_ GE242.out | refine below_set ?_ GE243.out | refine below_set ?_ GE244.out) | exact HB.out)))); have n1_ := Aside0.mk (blk_below (g := gb242) (o := .cells #[.int .u64 a2_0, .slice A2_1 l2_1.length c2_1] 50 (0, 0)) (by (with_reducible repeat (first | refine blk_drewN ?_ _ | refine blk_drew ?_ | refine blk_alloc ?_ _)); exact BK242.out) hb); have n2_ := Aside0.mk (blk_below (g := gb243) (o := .cells #[.int .u64 a3_0, .slice A3_1 l3_1.length c3_1] 50 (0, 0)) (by (with_reducible repeat (first | refine blk_drewN ?_ _ | refine blk_drew ?_ | refine blk_alloc ?_ _)); exact BK243.out) hb); have n3_ := Aside0.mk (blk_below (g := gb244) (o := .cells #[.int .u64 0, .int .u64 0, .int .u64 0, .int .u64 0] 60 (0, 0)) (by (with_reducible repeat (first | refine blk_drewN ?_ _ | refine blk_drew ?_ | refine blk_alloc ?_ _)); exact BK244.out) hb); have n4_ := Aside0.mk (below_step (by repeat (first | (with_reducible first | exact HB.out | apply below_alloc | apply pw_below_drewN | apply below_drew1 | refine below_set ?_ GE242.out | refine below_set ?_ GE243.out | refine below_set ?_ GE244.out) | exact HB.out)) hb); clear BK242; clear BK243; clear BK244; clear HB; have HO249 := n0_; have BK242 := n1_; have BK243 := n2_; have BK244 := n3_; have HB := n4_; clear n0_ n1_ n2_ n3_ n4_; (try clear hb); (try clear hb2); (try clear hk); (try clear hi); (try clear ho0); have hnb16 := NB243_244.out; have hnc16 := NB244_243.out; have hcz17_0 : w15.cell? ⟨gb243, 0, none⟩ = some (.int .u64 a3_0) := (blk_cell BK243.out 0).trans rfl; have hcz17_1 : w15.cell? ⟨gb243, 1, none⟩ = some (.slice A3_1 l3_1.length c3_1) := (blk_cell BK243.out 1).trans rfl; have hfz17_0 := blk_frozen BK243.out 0; have hfz17_1 := blk_frozen BK243.out 1) | ((with_reducible refine gate_callee (f := 55) rfl ?_); refine goesL_ (some 37) rfl rfl Try.func55 (by kernel_rfl) rfl #[.int .i64 a0, .int .i64 a1, .int .u64 a3_0, .slice A3_1 l3_1.length c3_1] rfl (by (try simp only [map_toArray, map_cons, map_nil]); first | done | rfl) ?_; (with_reducible refine (merkle_pairs.calls a0 a1 a3_0 _ _ l3_1 t250 t251 _ ?side1 ?side2 A8.out).mono ?_); (case side1 => repeat (first | exact (Kd.C_below HR3_1.out HB.out) | (with_reducible refine Kd.C_alloc ?_ _) | (with_reducible refine Kd.C_drewN ?_ _) | (with_reducible refine Kd.C_drew ?_))); (case side2 => exact HC3_1.out); rintro e w18 ⟨v252, rfl, ho0, hb⟩; refine ⟨_, rfl, ?_⟩; have n0_ := Aside0.mk (Kd.R_elder' (by (with_reducible repeat (first | apply Kd.R_alloc | apply Kd.R_drewN | apply Kd.R_drew)); exact HO249.out) (Kd.R_base ho0) hb); have n1_ := Aside0.mk (Kd.R_lower (Kd.R_new' ho0 (Kd.R_lt (by (with_reducible repeat (first | apply Kd.R_alloc | apply Kd.R_drewN | apply Kd.R_drew)); exact HO249.out))) (below_size (by repeat (first | (with_reducible first | exact HB.out | apply below_alloc | apply pw_below_drewN | apply below_drew1 | refine below_set ?_ GE242.out | refine below_set ?_ GE243.out | refine below_set ?_ GE244.out) | exact HB.out)))); have n2_ := Aside0.mk (blk_below (g := gb242) (o := .cells #[.int .u64 a2_0, .slice A2_1 l2_1.length c2_1] 50 (0, 0)) (by (with_reducible repeat (first | refine blk_drewN ?_ _ | refine blk_drew ?_ | refine blk_alloc ?_ _)); exact BK242.out) hb); have n3_ := Aside0.mk (blk_below (g := gb243) (o := .cells #[.int .u64 a3_0, .slice A3_1 l3_1.length c3_1] 50 (0, 0)) (by (with_reducible repeat (first | refine blk_drewN ?_ _ | refine blk_drew ?_ | refine blk_alloc ?_ _)); exact BK243.out) hb); have n4_ := Aside0.mk (blk_below (g := gb244) (o := .cells #[.int .u64 0, .int .u64 0, .int .u64 0, .int .u64 0] 60 (0, 0)) (by (with_reducible repeat (first | refine blk_drewN ?_ _ | refine blk_drew ?_ | refine blk_alloc ?_ _)); exact BK244.out) hb); have n5_ := Aside0.mk (below_step (by repeat (first | (with_reducible first | exact HB.out | apply below_alloc | apply pw_below_drewN | apply below_drew1 | refine below_set ?_ GE242.out | refine below_set ?_ GE243.out | refine below_set ?_ GE244.out) | exact HB.out)) hb); clear HO249; clear BK242; clear BK243; clear BK244; clear HB; have HO249 := n0_; have HO253 := n1_; have BK242 := n2_; have BK243 := n3_; have BK244 := n4_; have HB := n5_; clear n0_ n1_ n2_ n3_ n4_ n5_; (try clear hb); (try clear hb2); (try clear hk); (try clear hi); (try clear ho0)))
  go_loopg [14] k (fun kq v14 w' => ∃ (x14_1 : Int) (x245000_1 : Int) (x245001_1 : Int) (x245002_1 : Int) (x245003_1 : Int), v14 = .int .i64 x14_1 ∧ Aside0 (merkle_Collide.l0 kq t246 t247 t250 t251 x14_1 = some (r1, r2, r3, r4, r5)) ∧ Aside0 (kq ≤ k) ∧ Aside0 (Kd.R k59 59 w' w.heap.size (fun k_ => some k_ ≠ (v252 : Value).ownBlock) v248 t246) ∧ Aside0 (Kd.R k59 59 w' w.heap.size (fun k_ => some k_ ≠ (v248 : Value).ownBlock) v252 t250) ∧ Aside0 (w'.heap[gb242]? = some (.cells #[.int .u64 a2_0, (.slice A2_1 l2_1.length c2_1)] 50 (0, 0))) ∧ Aside0 (w'.heap[gb243]? = some (.cells #[.int .u64 a3_0, (.slice A3_1 l3_1.length c3_1)] 50 (0, 0))) ∧ Aside0 (w'.heap[gb244]? = some (.cells #[.int .u64 x245000_1, .int .u64 x245001_1, .int .u64 x245002_1, .int .u64 x245003_1] 60 (0, 0))) ∧ Aside0 (Below w.heap.size w w'))
  case atStart => exact ⟨(0), (0), (0), (0), (0), (by first | rfl | (simp; done) | (simp [*]; done)), H', ⟨Nat.le_refl _⟩, ⟨by (with_reducible repeat (first | apply Kd.R_alloc | apply Kd.R_drewN | apply Kd.R_drew)); exact Kd.R_mono HO249.out (fun _ hk => by first | exact hk.2 | exact hk | exact ⟨hk.2, hk.1⟩ | simp_all)⟩, ⟨by (with_reducible repeat (first | apply Kd.R_alloc | apply Kd.R_drewN | apply Kd.R_drew)); exact Kd.R_mono HO253.out (fun _ hk => by first | exact hk.2 | exact hk | exact ⟨hk.2, hk.1⟩ | simp_all)⟩, ⟨by (with_reducible repeat (first | refine blk_drewN ?_ _ | refine blk_drew ?_ | refine blk_alloc ?_ _)); exact BK242.out⟩, ⟨by (with_reducible repeat (first | refine blk_drewN ?_ _ | refine blk_drew ?_ | refine blk_alloc ?_ _)); exact BK243.out⟩, ⟨by (with_reducible repeat (first | refine blk_drewN ?_ _ | refine blk_drew ?_ | refine blk_alloc ?_ _)); exact BK244.out⟩, ⟨by repeat (first | (with_reducible first | exact HB.out | apply below_alloc | apply pw_below_drewN | apply below_drew1 | refine below_set ?_ GE242.out | refine below_set ?_ GE243.out | refine below_set ?_ GE244.out) | exact HB.out)⟩⟩
  case round =>
   clear H'
   try clear c1
   try clear c2
   try clear p2
   try clear c3
   try clear c4
   try clear c5
   try clear c6
   try clear c6b0
   try clear c6b1
   try clear c12
   try clear c13
   try clear c16
   try clear hcz14_0
   try clear hcz14_1
   try clear hcz17_0
   try clear hcz17_1
   try clear hfz14_0
   try clear hfz14_1
   try clear hfz17_0
   try clear hfz17_1
   obtain ⟨x14_1, x245000_1, x245001_1, x245002_1, x245003_1, rfl, HA, HK1, HO_10, HO_12, BK242, BK243, BK244, HB⟩ := hrel
   cases gk with
   | zero => exact absurd HA.out (by simp [merkle_Collide.l0])
   | succ k1 =>
    have H := HA.out
    clear HA
    simp only [merkle_Collide.l0] at H
    have HC19 := Aside0.mk H
    clear H
    go_upto_region 6 with (fail)
    go_cut [49] (fun v49 wc => ∃ (kq : Nat) (x49_18 : Bool), v49 = .bool x49_18 ∧ Aside0 (merkle_Collide.j1 kq t246 t247 t250 t251 x14_1 x49_18 = some (r1, r2, r3, r4, r5)) ∧ Aside0 (kq ≤ k1) ∧ Aside0 (Kd.R k59 59 wc w.heap.size (fun k_ => some k_ ≠ (v252 : Value).ownBlock) v248 t246) ∧ Aside0 (Kd.R k59 59 wc w.heap.size (fun k_ => some k_ ≠ (v248 : Value).ownBlock) v252 t250) ∧ Aside0 (wc.heap[gb242]? = some (.cells #[.int .u64 a2_0, (.slice A2_1 l2_1.length c2_1)] 50 (0, 0))) ∧ Aside0 (wc.heap[gb243]? = some (.cells #[.int .u64 a3_0, (.slice A3_1 l3_1.length c3_1)] 50 (0, 0))) ∧ Aside0 (wc.heap[gb244]? = some (.cells #[.int .u64 x245000_1, .int .u64 x245001_1, .int .u64 x245002_1, .int .u64 x245003_1] 60 (0, 0))) ∧ Aside0 (Below w.heap.size w wc))
    case first =>
     have H := HC19.out
     clear HC19
     by_cases c20 : t247 = true
     ·
      subst c20
      have H1 : (if t251 = true then (merkle_Collide.j1 k1 t246 true t250 t251 x14_1 (decide (x14_1 < (t246.length : Int)))) else (merkle_Collide.j1 k1 t246 true t250 t251 x14_1 false)) = some (r1, r2, r3, r4, r5) := by rw [if_pos rfl] at H; exact H
      clear H
      have H := H1
      clear H1
      by_cases c21 : t251 = true
      ·
       subst c21
       have H1 : (merkle_Collide.j1 k1 t246 true t250 true x14_1 (decide (x14_1 < (t246.length : Int)))) = some (r1, r2, r3, r4, r5) := by rw [if_pos rfl] at H; exact H
       clear H
       have H := H1
       clear H1
       have H' := Aside0.mk H
       clear H
       obtain ⟨Ao22, co22, eo22⟩ := Kd.R_slice HO_10.out
       subst eo22
       go_wp2
       go_meet
       case rel => exact ⟨_, (decide (x14_1 < (t246.length : Int))), (by first | rfl | (simp; done) | (simp [*]; done)), H', ⟨by have := HK1.out; first | omega | exact Nat.le_refl _⟩, ⟨by (with_reducible repeat (first | apply Kd.R_alloc | apply Kd.R_drewN | apply Kd.R_drew)); exact HO_10.out⟩, ⟨by (with_reducible repeat (first | apply Kd.R_alloc | apply Kd.R_drewN | apply Kd.R_drew)); exact HO_12.out⟩, ⟨by (with_reducible repeat (first | refine blk_drewN ?_ _ | refine blk_drew ?_ | refine blk_alloc ?_ _)); exact BK242.out⟩, ⟨by (with_reducible repeat (first | refine blk_drewN ?_ _ | refine blk_drew ?_ | refine blk_alloc ?_ _)); exact BK243.out⟩, ⟨by (with_reducible repeat (first | refine blk_drewN ?_ _ | refine blk_drew ?_ | refine blk_alloc ?_ _)); exact BK244.out⟩, ⟨by repeat (first | (with_reducible first | exact HB.out | apply below_alloc | apply pw_below_drewN | apply below_drew1 | refine below_set ?_ GE242.out | refine below_set ?_ GE243.out | refine below_set ?_ GE244.out) | exact HB.out)⟩⟩
      ·
       replace c21 := Bool.eq_false_iff.mpr c21
       subst c21
       have H1 : (merkle_Collide.j1 k1 t246 true t250 false x14_1 false) = some (r1, r2, r3, r4, r5) := by rw [if_neg (show ¬ (false = true) by decide)] at H; exact H
       clear H
       have H := H1
       clear H1
       have H' := Aside0.mk H
       clear H
       go_wp2
       go_meet
       case rel => exact ⟨_, (false), (by first | rfl | (simp; done) | (simp [*]; done)), H', ⟨by have := HK1.out; first | omega | exact Nat.le_refl _⟩, ⟨by (with_reducible repeat (first | apply Kd.R_alloc | apply Kd.R_drewN | apply Kd.R_drew)); exact HO_10.out⟩, ⟨by (with_reducible repeat (first | apply Kd.R_alloc | apply Kd.R_drewN | apply Kd.R_drew)); exact HO_12.out⟩, ⟨by (with_reducible repeat (first | refine blk_drewN ?_ _ | refine blk_drew ?_ | refine blk_alloc ?_ _)); exact BK242.out⟩, ⟨by (with_reducible repeat (first | refine blk_drewN ?_ _ | refine blk_drew ?_ | refine blk_alloc ?_ _)); exact BK243.out⟩, ⟨by (with_reducible repeat (first | refine blk_drewN ?_ _ | refine blk_drew ?_ | refine blk_alloc ?_ _)); exact BK244.out⟩, ⟨by repeat (first | (with_reducible first | exact HB.out | apply below_alloc | apply pw_below_drewN | apply below_drew1 | refine below_set ?_ GE242.out | refine below_set ?_ GE243.out | refine below_set ?_ GE244.out) | exact HB.out)⟩⟩
     ·
      replace c20 := Bool.eq_false_iff.mpr c20
      subst c20
      have H1 : (merkle_Collide.j1 k1 t246 false t250 t251 x14_1 false) = some (r1, r2, r3, r4, r5) := by rw [if_neg (show ¬ (false = true) by decide)] at H; exact H
      clear H
      have H := H1
      clear H1
      have H' := Aside0.mk H
      clear H
      go_wp2
      go_meet
      case rel => exact ⟨_, (false), (by first | rfl | (simp; done) | (simp [*]; done)), H', ⟨by have := HK1.out; first | omega | exact Nat.le_refl _⟩, ⟨by (with_reducible repeat (first | apply Kd.R_alloc | apply Kd.R_drewN | apply Kd.R_drew)); exact HO_10.out⟩, ⟨by (with_reducible repeat (first | apply Kd.R_alloc | apply Kd.R_drewN | apply Kd.R_drew)); exact HO_12.out⟩, ⟨by (with_reducible repeat (first | refine blk_drewN ?_ _ | refine blk_drew ?_ | refine blk_alloc ?_ _)); exact BK242.out⟩, ⟨by (with_reducible repeat (first | refine blk_drewN ?_ _ | refine blk_drew ?_ | refine blk_alloc ?_ _)); exact BK243.out⟩, ⟨by (with_reducible repeat (first | refine blk_drewN ?_ _ | refine blk_drew ?_ | refine blk_alloc ?_ _)); exact BK244.out⟩, ⟨by repeat (first | (with_reducible first | exact HB.out | apply below_alloc | apply pw_below_drewN | apply below_drew1 | refine below_set ?_ GE242.out | refine below_set ?_ GE243.out | refine below_set ?_ GE244.out) | exact HB.out)⟩⟩
    case rest =>
     clear HC19
     try clear c1
     try clear c2
     try clear p2
     try clear c3
     try clear c4
     try clear c5
     try clear c6
     try clear c6b0
     try clear c6b1
     try clear c12
     try clear c13
     try clear c16
     try clear c20
     try clear c21
     try clear hcz14_0
     try clear hcz14_1
     try clear hcz17_0
     try clear hcz17_1
     try clear hfz14_0
     try clear hfz14_1
     try clear hfz17_0
     try clear hfz17_1
     try clear p2
     obtain ⟨kq, x49_18, rfl, HA, HJ18, HO_10, HO_12, BK242, BK243, BK244, HB⟩ := hcut
     cases kq with
     | zero => exact absurd HA.out (by simp [merkle_Collide.j1])
     | succ kj18 =>
      have H := HA.out
      clear HA
      simp only [merkle_Collide.j1] at H
      by_cases c23 : x49_18 = true
      ·
       subst c23
       have H1 : (if 0 ≤ x14_1 then (if x14_1 < (t246.length : Int) then (if x14_1 < (t250.length : Int) then (if ((rd_T59 t246 x14_1).f0) = ((rd_T59 t250 x14_1).f0) then (if ((rd_T59 t246 x14_1).f1) = ((rd_T59 t250 x14_1).f1) then (merkle_Collide.l0 kj18 t246 t247 t250 t251 (wrap64 (x14_1 + 1))) else ((digest_Join.f ((rd_T59 t246 x14_1).f0) ((rd_T59 t246 x14_1).f1)).bind fun t258 => ((digest_Join.f ((rd_T59 t250 x14_1).f0) ((rd_T59 t250 x14_1).f1)).bind fun t261 => (if t258 = t261 then (some ((rd_T59 t246 x14_1).f0, (rd_T59 t246 x14_1).f1, (rd_T59 t250 x14_1).f0, (rd_T59 t250 x14_1).f1, true)) else (merkle_Collide.l0 kj18 t246 t247 t250 t251 (wrap64 (x14_1 + 1))))))) else ((digest_Join.f ((rd_T59 t246 x14_1).f0) ((rd_T59 t246 x14_1).f1)).bind fun t266 => ((digest_Join.f ((rd_T59 t250 x14_1).f0) ((rd_T59 t250 x14_1).f1)).bind fun t269 => (if t266 = t269 then (some ((rd_T59 t246 x14_1).f0, (rd_T59 t246 x14_1).f1, (rd_T59 t250 x14_1).f0, (rd_T59 t250 x14_1).f1, true)) else (merkle_Collide.l0 kj18 t246 t247 t250 t251 (wrap64 (x14_1 + 1))))))) else (none)) else (none)) else (none)) = some (r1, r2, r3, r4, r5) := by rw [if_pos rfl] at H; exact H
       clear H
       have H := H1
       clear H1
       by_cases c24 : 0 ≤ x14_1
       ·
        rw [if_pos c24] at H
        have c24b0 : decide (0 ≤ x14_1) = true := decide_eq_true c24
        clear c24
        by_cases c25 : x14_1 < (t246.length : Int)
        ·
         rw [if_pos c25] at H
         have c25b0 : decide (x14_1 < (t246.length : Int)) = true := decide_eq_true c25
         clear c25
         by_cases c26 : x14_1 < (t250.length : Int)
         ·
          rw [if_pos c26] at H
          have c26b0 : decide (x14_1 < (t250.length : Int)) = true := decide_eq_true c26
          clear c26
          by_cases c27 : ((rd_T59 t246 x14_1).f0) = ((rd_T59 t250 x14_1).f0)
          ·
           rw [if_pos c27] at H
           have c27b0 : (((rd_T59 t246 x14_1).f0) == ((rd_T59 t250 x14_1).f0)) = true := beq_iff_eq.mpr c27
           have c27b1 : (((rd_T59 t246 x14_1).f0) != ((rd_T59 t250 x14_1).f0)) = false := bne_eq_false_iff_eq.mpr c27
           clear c27
           by_cases c28 : ((rd_T59 t246 x14_1).f1) = ((rd_T59 t250 x14_1).f1)
           ·
            rw [if_pos c28] at H
            have c28b0 : (((rd_T59 t246 x14_1).f1) == ((rd_T59 t250 x14_1).f1)) = true := beq_iff_eq.mpr c28
            have c28b1 : (((rd_T59 t246 x14_1).f1) != ((rd_T59 t250 x14_1).f1)) = false := bne_eq_false_iff_eq.mpr c28
            clear c28
            have H' := Aside0.mk H
            clear H
            try go_wp2
            have n0_ := Aside0.mk (Kd.R_drew HO_10.out)
            have n1_ := Aside0.mk (Kd.R_drew HO_12.out)
            have n2_ := Aside0.mk (blk_drew BK242.out)
            have n3_ := Aside0.mk (blk_drew BK243.out)
            have n4_ := Aside0.mk (blk_drew BK244.out)
            have n5_ := Aside0.mk (below_drew1 HB.out)
            clear HO_10
            clear HO_12
            clear BK242
            clear BK243
            clear BK244
            clear HB
            have HO_10 := n0_
            have HO_12 := n1_
            have BK242 := n2_
            have BK243 := n3_
            have BK244 := n4_
            have HB := n5_
            clear n0_ n1_ n2_ n3_ n4_ n5_
            obtain ⟨Ao30, co30, eo30⟩ := Kd.R_slice HO_10.out
            (first | subst eo30 | (injection eo30 with f1_ f2_ f3_; have f4_ := f1_.symm; have f5_ := f3_.symm; clear f1_ f2_ f3_; subst f4_; subst f5_))
            have p254 : 0 ≤ (x14_1 : Int) := of_decide_eq_true (by first | (with_reducible assumption) | assumption)
            have q254 : x14_1 < (t246.length : Int) := of_decide_eq_true (by first | (with_reducible assumption) | assumption)
            obtain ⟨ad254, e254, hx254_0, hx254_1⟩ := at_T59 (Kd.R_reads' HO_10.out).2.2 x14_1 p254 q254
            cases e254
            replace p254 := eq_true p254
            replace q254 := eq_true q254
            obtain ⟨Ao31, co31, eo31⟩ := Kd.R_slice HO_12.out
            (first | subst eo31 | (injection eo31 with f1_ f2_ f3_; have f4_ := f1_.symm; have f5_ := f3_.symm; clear f1_ f2_ f3_; subst f4_; subst f5_))
            have p255 : 0 ≤ (x14_1 : Int) := of_decide_eq_true (by first | (with_reducible assumption) | assumption)
            have q255 : x14_1 < (t250.length : Int) := of_decide_eq_true (by first | (with_reducible assumption) | assumption)
            obtain ⟨ad255, e255, hx255_0, hx255_1⟩ := at_T59 (Kd.R_reads' HO_12.out).2.2 x14_1 p255 q255
            cases e255
            replace p255 := eq_true p255
            replace q255 := eq_true q255
            refine start_ (n := 34) (S := fun w' => w'.cell? (ad254.add ((x14_1).toNat * 2)) = some (.int .u64 ((rd_T59 t246 x14_1).f0)) ∧ w'.cell? ⟨(ad254.add ((x14_1).toNat * 2)).block, (ad254.add ((x14_1).toNat * 2)).off + 1, none⟩ = some (.int .u64 ((rd_T59 t246 x14_1).f1)) ∧ w'.cell? (ad255.add ((x14_1).toNat * 2)) = some (.int .u64 ((rd_T59 t250 x14_1).f0)) ∧ w'.cell? ⟨(ad255.add ((x14_1).toNat * 2)).block, (ad255.add ((x14_1).toNat * 2)).off + 1, none⟩ = some (.int .u64 ((rd_T59 t250 x14_1).f1))) (ds := []) #[false, false, false, false, false, false, false, false, false, false, false, false, false, false, false, false, false, false, false, false, false, false, false, false, false, false, false, false, false, false, false, false, false, false] (by kernel_rfl) rfl rfl ⟨hx254_0, hx254_1, hx255_0, hx255_1⟩ (fun hHeld => ?_); refine with_tabW merkle_Collide.tab8 merkle_Collide.bits8 (fun HT_ HW_ => ?_)
            generalize wc.drew = w29 at HO_10 HO_12 BK242 BK243 BK244 HB hx254_0 hx254_1 hx255_0 hx255_1 hHeld ⊢
            refine pure_ (i := 0) (N := some 52) (v := ?_) (a' := ?_) (bl_40 34 1) rfl rfl (any_of HT_.out (by kernel_rfl)) (fun _ _ _ h => h) (Or.inl ⟨by rfl, ?_⟩) ?_ ?_; rotate_left; (· intro w'; go_simp; with_reducible rfl); rotate_left; (· simp only [Act.put, setIfInBounds_toArray, set_cons_zero, set_cons_succ, i64_w, i32_w]; rfl)
            refine pure_ (i := 1) (N := some 53) (v := ?_) (a' := ?_) (bl_40 34 3) rfl rfl (any_of HT_.out (by kernel_rfl)) (fun _ _ _ h => h) (Or.inl ⟨by rfl, ?_⟩) ?_ ?_; rotate_left; (· intro w'; go_simp; with_reducible rfl); rotate_left; (· simp only [Act.put, setIfInBounds_toArray, set_cons_zero, set_cons_succ, i64_w, i32_w]; rfl)
            refine pure_ (i := 2) (N := some 54) (v := ?_) (a' := ?_) (bl_40 34 7) rfl rfl (any_of HT_.out (by kernel_rfl)) (fun _ _ _ h => h) (Or.inl ⟨by rfl, ?_⟩) ?_ ?_; rotate_left; (· intro w'; go_simp; with_reducible rfl); rotate_left; (· simp only [Act.put, setIfInBounds_toArray, set_cons_zero, set_cons_succ, i64_w, i32_w]; rfl)
            refine pure_ (i := 4) (N := some 56) (v := ?_) (a' := ?_) (bl_40 34 23) rfl rfl (any_of HT_.out (by kernel_rfl)) (fun _ _ _ h => h) (Or.inl ⟨by rfl, ?_⟩) ?_ ?_; rotate_left; (· intro w'; go_simp; with_reducible rfl); rotate_left; (· simp only [Act.put, setIfInBounds_toArray, set_cons_zero, set_cons_succ, i64_w, i32_w]; rfl)
            refine pure_ (i := 5) (N := some 57) (v := ?_) (a' := ?_) (bl_40 34 55) rfl rfl (any_of HT_.out (by kernel_rfl)) (fun _ _ _ h => h) (Or.inl ⟨by rfl, ?_⟩) ?_ ?_; rotate_left; (· intro w'; go_simp; with_reducible rfl); rotate_left; (· simp only [Act.put, setIfInBounds_toArray, set_cons_zero, set_cons_succ, i64_w, i32_w]; rfl)
            refine pure_ (i := 6) (N := some 58) (v := ?_) (a' := ?_) (bl_40 34 119) rfl rfl (any_of HT_.out (by kernel_rfl)) (fun _ _ _ h => h) (Or.inl ⟨by rfl, ?_⟩) ?_ ?_; rotate_left; (· intro w'; go_simp; with_reducible rfl); rotate_left; (· simp only [Act.put, setIfInBounds_toArray, set_cons_zero, set_cons_succ, i64_w, i32_w]; rfl)
            refine take_ (i := 3) (N := some 55) (v := ?_) (a' := ?_) (bl_40 34 127) rfl rfl (take_ofW HT_.out HW_.out (by kernel_rfl)) (fun _ _ _ h => h) (Or.inl ⟨by rfl, ?_⟩) hHeld ?_ ?_; rotate_left; (· rintro w' ⟨s0, s1, s2, s3⟩; go_simp; with_reducible rfl); rotate_left; (· simp only [Act.put, setIfInBounds_toArray, set_cons_zero, set_cons_succ, i64_w, i32_w]; rfl)
            refine take_ (i := 7) (N := some 59) (v := ?_) (a' := ?_) (bl_40 34 255) rfl rfl (take_ofW HT_.out HW_.out (by kernel_rfl)) (fun _ _ _ h => h) (Or.inl ⟨by rfl, ?_⟩) hHeld ?_ ?_; rotate_left; (· rintro w' ⟨s0, s1, s2, s3⟩; go_simp; with_reducible rfl); rotate_left; (· simp only [Act.put, setIfInBounds_toArray, set_cons_zero, set_cons_succ, i64_w, i32_w]; rfl)
            refine pure_ (i := 8) (N := some 60) (v := ?_) (a' := ?_) (bl_40 34 511) rfl rfl (any_of HT_.out (by kernel_rfl)) (fun _ _ _ h => h) (Or.inl ⟨by rfl, ?_⟩) ?_ ?_; rotate_left; (· intro w'; go_simp; with_reducible rfl); rotate_left; (· simp only [Act.put, setIfInBounds_toArray, set_cons_zero, set_cons_succ, i64_w, i32_w]; rfl)
            refine pure_ (i := 9) (N := some 61) (v := ?_) (a' := ?_) (bl_40 34 1023) rfl rfl (any_of HT_.out (by kernel_rfl)) (fun _ _ _ h => h) (Or.inl ⟨by rfl, ?_⟩) ?_ ?_; rotate_left; (· intro w'; go_simp; with_reducible rfl); rotate_left; (· simp only [Act.put, setIfInBounds_toArray, set_cons_zero, set_cons_succ, i64_w, i32_w]; rfl)
            refine pure_ (i := 10) (N := some 62) (v := undef) (a' := ?_) (bl_40 34 2047) rfl rfl (any_of HT_.out (by kernel_rfl)) (fun _ _ _ h => h) (Or.inr ⟨by rfl, rfl⟩) ?_ ?_; rotate_left; (· simp only [Act.put, setIfInBounds_toArray, set_cons_zero, set_cons_succ, i64_w, i32_w]; rfl)
            refine pure_ (i := 11) (N := some 63) (v := undef) (a' := ?_) (bl_40 34 4095) rfl rfl (any_of HT_.out (by kernel_rfl)) (fun _ _ _ h => h) (Or.inr ⟨by rfl, rfl⟩) ?_ ?_; rotate_left; (· simp only [Act.put, setIfInBounds_toArray, set_cons_zero, set_cons_succ, i64_w, i32_w]; rfl)
            refine pure_ (i := 12) (N := some 64) (v := undef) (a' := ?_) (bl_40 34 8191) rfl rfl (any_of HT_.out (by kernel_rfl)) (fun _ _ _ h => h) (Or.inr ⟨by rfl, rfl⟩) ?_ ?_; rotate_left; (· simp only [Act.put, setIfInBounds_toArray, set_cons_zero, set_cons_succ, i64_w, i32_w]; rfl)
            refine pure_ (i := 13) (N := some 65) (v := undef) (a' := ?_) (bl_40 34 16383) rfl rfl (any_of HT_.out (by kernel_rfl)) (fun _ _ _ h => h) (Or.inr ⟨by rfl, rfl⟩) ?_ ?_; rotate_left; (· simp only [Act.put, setIfInBounds_toArray, set_cons_zero, set_cons_succ, i64_w, i32_w]; rfl)
            refine pure_ (i := 14) (N := some 66) (v := undef) (a' := ?_) (bl_40 34 32767) rfl rfl (any_of HT_.out (by kernel_rfl)) (fun _ _ _ h => h) (Or.inr ⟨by rfl, rfl⟩) ?_ ?_; rotate_left; (· simp only [Act.put, setIfInBounds_toArray, set_cons_zero, set_cons_succ, i64_w, i32_w]; rfl)
            refine pure_ (i := 15) (N := some 67) (v := undef) (a' := ?_) (bl_40 34 65535) rfl rfl (any_of HT_.out (by kernel_rfl)) (fun _ _ _ h => h) (Or.inr ⟨by rfl, rfl⟩) ?_ ?_; rotate_left; (· simp only [Act.put, setIfInBounds_toArray, set_cons_zero, set_cons_succ, i64_w, i32_w]; rfl)
            refine pure_ (i := 16) (N := some 68) (v := undef) (a' := ?_) (bl_40 34 131071) rfl rfl (any_of HT_.out (by kernel_rfl)) (fun _ _ _ h => h) (Or.inr ⟨by rfl, rfl⟩) ?_ ?_; rotate_left; (· simp only [Act.put, setIfInBounds_toArray, set_cons_zero, set_cons_succ, i64_w, i32_w]; rfl)
            refine pure_ (i := 17) (N := some 69) (v := undef) (a' := ?_) (bl_40 34 262143) rfl rfl (any_of HT_.out (by kernel_rfl)) (fun _ _ _ h => h) (Or.inr ⟨by rfl, rfl⟩) ?_ ?_; rotate_left; (· simp only [Act.put, setIfInBounds_toArray, set_cons_zero, set_cons_succ, i64_w, i32_w]; rfl)
            refine pure_ (i := 18) (N := some 70) (v := undef) (a' := ?_) (bl_40 34 524287) rfl rfl (any_of HT_.out (by kernel_rfl)) (fun _ _ _ h => h) (Or.inr ⟨by rfl, rfl⟩) ?_ ?_; rotate_left; (· simp only [Act.put, setIfInBounds_toArray, set_cons_zero, set_cons_succ, i64_w, i32_w]; rfl)
            refine pure_ (i := 19) (N := some 71) (v := undef) (a' := ?_) (bl_40 34 1048575) rfl rfl (any_of HT_.out (by kernel_rfl)) (fun _ _ _ h => h) (Or.inr ⟨by rfl, rfl⟩) ?_ ?_; rotate_left; (· simp only [Act.put, setIfInBounds_toArray, set_cons_zero, set_cons_succ, i64_w, i32_w]; rfl)
            refine pure_ (i := 20) (N := some 72) (v := undef) (a' := ?_) (bl_40 34 2097151) rfl rfl (any_of HT_.out (by kernel_rfl)) (fun _ _ _ h => h) (Or.inr ⟨by rfl, rfl⟩) ?_ ?_; rotate_left; (· simp only [Act.put, setIfInBounds_toArray, set_cons_zero, set_cons_succ, i64_w, i32_w]; rfl)
            refine pure_ (i := 21) (N := some 73) (v := undef) (a' := ?_) (bl_40 34 4194303) rfl rfl (any_of HT_.out (by kernel_rfl)) (fun _ _ _ h => h) (Or.inr ⟨by rfl, rfl⟩) ?_ ?_; rotate_left; (· simp only [Act.put, setIfInBounds_toArray, set_cons_zero, set_cons_succ, i64_w, i32_w]; rfl)
            refine pure_ (i := 22) (N := some 74) (v := undef) (a' := ?_) (bl_40 34 8388607) rfl rfl (any_of HT_.out (by kernel_rfl)) (fun _ _ _ h => h) (Or.inr ⟨by rfl, rfl⟩) ?_ ?_; rotate_left; (· simp only [Act.put, setIfInBounds_toArray, set_cons_zero, set_cons_succ, i64_w, i32_w]; rfl)
            refine pure_ (i := 23) (N := some 75) (v := undef) (a' := ?_) (bl_40 34 16777215) rfl rfl (any_of HT_.out (by kernel_rfl)) (fun _ _ _ h => h) (Or.inr ⟨by rfl, rfl⟩) ?_ ?_; rotate_left; (· simp only [Act.put, setIfInBounds_toArray, set_cons_zero, set_cons_succ, i64_w, i32_w]; rfl)
            refine pure_ (i := 24) (N := some 76) (v := undef) (a' := ?_) (bl_40 34 33554431) rfl rfl (any_of HT_.out (by kernel_rfl)) (fun _ _ _ h => h) (Or.inr ⟨by rfl, rfl⟩) ?_ ?_; rotate_left; (· simp only [Act.put, setIfInBounds_toArray, set_cons_zero, set_cons_succ, i64_w, i32_w]; rfl)
            refine pure_ (i := 25) (N := some 77) (v := undef) (a' := ?_) (bl_40 34 67108863) rfl rfl (any_of HT_.out (by kernel_rfl)) (fun _ _ _ h => h) (Or.inr ⟨by rfl, rfl⟩) ?_ ?_; rotate_left; (· simp only [Act.put, setIfInBounds_toArray, set_cons_zero, set_cons_succ, i64_w, i32_w]; rfl)
            refine pure_ (i := 26) (N := some 78) (v := undef) (a' := ?_) (bl_40 34 134217727) rfl rfl (any_of HT_.out (by kernel_rfl)) (fun _ _ _ h => h) (Or.inr ⟨by rfl, rfl⟩) ?_ ?_; rotate_left; (· simp only [Act.put, setIfInBounds_toArray, set_cons_zero, set_cons_succ, i64_w, i32_w]; rfl)
            refine pure_ (i := 27) (N := some 79) (v := undef) (a' := ?_) (bl_40 34 268435455) rfl rfl (any_of HT_.out (by kernel_rfl)) (fun _ _ _ h => h) (Or.inr ⟨by rfl, rfl⟩) ?_ ?_; rotate_left; (· simp only [Act.put, setIfInBounds_toArray, set_cons_zero, set_cons_succ, i64_w, i32_w]; rfl)
            refine pure_ (i := 28) (N := some 80) (v := undef) (a' := ?_) (bl_40 34 536870911) rfl rfl (any_of HT_.out (by kernel_rfl)) (fun _ _ _ h => h) (Or.inr ⟨by rfl, rfl⟩) ?_ ?_; rotate_left; (· simp only [Act.put, setIfInBounds_toArray, set_cons_zero, set_cons_succ, i64_w, i32_w]; rfl)
            refine pure_ (i := 29) (N := some 81) (v := undef) (a' := ?_) (bl_40 34 1073741823) rfl rfl (any_of HT_.out (by kernel_rfl)) (fun _ _ _ h => h) (Or.inr ⟨by rfl, rfl⟩) ?_ ?_; rotate_left; (· simp only [Act.put, setIfInBounds_toArray, set_cons_zero, set_cons_succ, i64_w, i32_w]; rfl)
            refine pure_ (i := 30) (N := some 82) (v := undef) (a' := ?_) (bl_40 34 2147483647) rfl rfl (any_of HT_.out (by kernel_rfl)) (fun _ _ _ h => h) (Or.inr ⟨by rfl, rfl⟩) ?_ ?_; rotate_left; (· simp only [Act.put, setIfInBounds_toArray, set_cons_zero, set_cons_succ, i64_w, i32_w]; rfl)
            refine pure_ (i := 31) (N := some 83) (v := undef) (a' := ?_) (bl_40 34 4294967295) rfl rfl (any_of HT_.out (by kernel_rfl)) (fun _ _ _ h => h) (Or.inr ⟨by rfl, rfl⟩) ?_ ?_; rotate_left; (· simp only [Act.put, setIfInBounds_toArray, set_cons_zero, set_cons_succ, i64_w, i32_w]; rfl)
            refine pure_ (i := 32) (N := some 84) (v := undef) (a' := ?_) (bl_40 34 8589934591) rfl rfl (any_of HT_.out (by kernel_rfl)) (fun _ _ _ h => h) (Or.inr ⟨by rfl, rfl⟩) ?_ ?_; rotate_left; (· simp only [Act.put, setIfInBounds_toArray, set_cons_zero, set_cons_succ, i64_w, i32_w]; rfl)
            refine pure_ (i := 33) (N := some 85) (v := ?_) (a' := ?_) (bl_40 34 17179869183) rfl rfl (any_of HT_.out (by kernel_rfl)) (fun _ _ _ h => h) (Or.inl ⟨by rfl, ?_⟩) ?_ ?_; rotate_left; (· intro w'; go_simp; with_reducible rfl); rotate_left; (· simp only [Act.put, setIfInBounds_toArray, set_cons_zero, set_cons_succ, i64_w, i32_w]; rfl)
            refine done_ (done_of HT_.out (by kernel_rfl)) ?_
            try go_wp2
            go_roundg kj18
            case measure => have := HK1.out; have := HJ18.out; omega
            case rel => exact ⟨(wrap64 (x14_1 + 1)), (x245000_1), (x245001_1), (x245002_1), (x245003_1), (by first | rfl | (simp; done) | (simp [*]; done)), H', ⟨by have := HK1.out; have := HJ18.out; omega⟩, ⟨by (with_reducible repeat (first | apply Kd.R_alloc | apply Kd.R_drewN | apply Kd.R_drew)); exact HO_10.out⟩, ⟨by (with_reducible repeat (first | apply Kd.R_alloc | apply Kd.R_drewN | apply Kd.R_drew)); exact HO_12.out⟩, ⟨by (with_reducible repeat (first | refine blk_drewN ?_ _ | refine blk_drew ?_ | refine blk_alloc ?_ _)); exact BK242.out⟩, ⟨by (with_reducible repeat (first | refine blk_drewN ?_ _ | refine blk_drew ?_ | refine blk_alloc ?_ _)); exact BK243.out⟩, ⟨by (with_reducible repeat (first | refine blk_drewN ?_ _ | refine blk_drew ?_ | refine blk_alloc ?_ _)); exact BK244.out⟩, ⟨by repeat (first | (with_reducible first | exact HB.out | apply below_alloc | apply pw_below_drewN | apply below_drew1 | refine below_set ?_ GE242.out | refine below_set ?_ GE243.out | refine below_set ?_ GE244.out) | exact HB.out)⟩⟩
           ·
            rw [if_neg c28] at H
            have c28b0 : (((rd_T59 t246 x14_1).f1) == ((rd_T59 t250 x14_1).f1)) = false := beq_eq_false_iff_ne.mpr c28
            have c28b1 : (((rd_T59 t246 x14_1).f1) != ((rd_T59 t250 x14_1).f1)) = true := bne_iff_ne.mpr c28
            replace H := Option.bind_eq_some_iff.mp H
            obtain ⟨t258, A320, H⟩ := H
            replace H : ((digest_Join.f ((rd_T59 t250 x14_1).f0) ((rd_T59 t250 x14_1).f1)).bind fun t261 => (if t258 = t261 then (some ((rd_T59 t246 x14_1).f0, (rd_T59 t246 x14_1).f1, (rd_T59 t250 x14_1).f0, (rd_T59 t250 x14_1).f1, true)) else (merkle_Collide.l0 kj18 t246 t247 t250 t251 (wrap64 (x14_1 + 1))))) = some (r1, r2, r3, r4, r5) := H
            have A32 := Aside0.mk A320
            clear A320
            replace H := Option.bind_eq_some_iff.mp H
            obtain ⟨t261, A330, H⟩ := H
            replace H : (if t258 = t261 then (some ((rd_T59 t246 x14_1).f0, (rd_T59 t246 x14_1).f1, (rd_T59 t250 x14_1).f0, (rd_T59 t250 x14_1).f1, true)) else (merkle_Collide.l0 kj18 t246 t247 t250 t251 (wrap64 (x14_1 + 1)))) = some (r1, r2, r3, r4, r5) := H
            have A33 := Aside0.mk A330
            clear A330
            by_cases c34 : t258 = t261
            ·
             rw [if_pos c34] at H
             have c34b0 : (t258 == t261) = true := beq_iff_eq.mpr c34
             have c34b1 : (t258 != t261) = false := bne_eq_false_iff_eq.mpr c34
             clear c34
             simp only [Option.some.injEq, Prod.mk.injEq] at H
             obtain ⟨rfl, rfl, rfl, rfl, rfl⟩ := H
             try go_wp2
             have n0_ := Aside0.mk (Kd.R_drew HO_10.out)
             have n1_ := Aside0.mk (Kd.R_drew HO_12.out)
             have n2_ := Aside0.mk (blk_drew BK242.out)
             have n3_ := Aside0.mk (blk_drew BK243.out)
             have n4_ := Aside0.mk (blk_drew BK244.out)
             have n5_ := Aside0.mk (below_drew1 HB.out)
             clear HO_10
             clear HO_12
             clear BK242
             clear BK243
             clear BK244
             clear HB
             have HO_10 := n0_
             have HO_12 := n1_
             have BK242 := n2_
             have BK243 := n3_
             have BK244 := n4_
             have HB := n5_
             clear n0_ n1_ n2_ n3_ n4_ n5_
             obtain ⟨Ao36, co36, eo36⟩ := Kd.R_slice HO_10.out
             (first | subst eo36 | (injection eo36 with f1_ f2_ f3_; have f4_ := f1_.symm; have f5_ := f3_.symm; clear f1_ f2_ f3_; subst f4_; subst f5_))
             have p254 : 0 ≤ (x14_1 : Int) := of_decide_eq_true (by first | (with_reducible assumption) | assumption)
             have q254 : x14_1 < (t246.length : Int) := of_decide_eq_true (by first | (with_reducible assumption) | assumption)
             obtain ⟨ad254, e254, hx254_0, hx254_1⟩ := at_T59 (Kd.R_reads' HO_10.out).2.2 x14_1 p254 q254
             cases e254
             replace p254 := eq_true p254
             replace q254 := eq_true q254
             obtain ⟨Ao37, co37, eo37⟩ := Kd.R_slice HO_12.out
             (first | subst eo37 | (injection eo37 with f1_ f2_ f3_; have f4_ := f1_.symm; have f5_ := f3_.symm; clear f1_ f2_ f3_; subst f4_; subst f5_))
             have p255 : 0 ≤ (x14_1 : Int) := of_decide_eq_true (by first | (with_reducible assumption) | assumption)
             have q255 : x14_1 < (t250.length : Int) := of_decide_eq_true (by first | (with_reducible assumption) | assumption)
             obtain ⟨ad255, e255, hx255_0, hx255_1⟩ := at_T59 (Kd.R_reads' HO_12.out).2.2 x14_1 p255 q255
             cases e255
             replace p255 := eq_true p255
             replace q255 := eq_true q255
             have p256 : 0 ≤ (x14_1 : Int) := of_decide_eq_true (by first | (with_reducible assumption) | assumption)
             have q256 : x14_1 < (t246.length : Int) := of_decide_eq_true (by first | (with_reducible assumption) | assumption)
             obtain ⟨ad256, e256, hx256_0, hx256_1⟩ := at_T59 (Kd.R_reads' HO_10.out).2.2 x14_1 p256 q256
             obtain rfl : ad254 = ad256 := (by injection e256)
             replace p256 := eq_true p256
             replace q256 := eq_true q256
             have p257 : 0 ≤ (x14_1 : Int) := of_decide_eq_true (by first | (with_reducible assumption) | assumption)
             have q257 : x14_1 < (t246.length : Int) := of_decide_eq_true (by first | (with_reducible assumption) | assumption)
             obtain ⟨ad257, e257, hx257_0, hx257_1⟩ := at_T59 (Kd.R_reads' HO_10.out).2.2 x14_1 p257 q257
             obtain rfl : ad254 = ad257 := (by injection e257)
             replace p257 := eq_true p257
             replace q257 := eq_true q257
             have p259 : 0 ≤ (x14_1 : Int) := of_decide_eq_true (by first | (with_reducible assumption) | assumption)
             have q259 : x14_1 < (t250.length : Int) := of_decide_eq_true (by first | (with_reducible assumption) | assumption)
             obtain ⟨ad259, e259, hx259_0, hx259_1⟩ := at_T59 (Kd.R_reads' HO_12.out).2.2 x14_1 p259 q259
             obtain rfl : ad255 = ad259 := (by injection e259)
             replace p259 := eq_true p259
             replace q259 := eq_true q259
             have p260 : 0 ≤ (x14_1 : Int) := of_decide_eq_true (by first | (with_reducible assumption) | assumption)
             have q260 : x14_1 < (t250.length : Int) := of_decide_eq_true (by first | (with_reducible assumption) | assumption)
             obtain ⟨ad260, e260, hx260_0, hx260_1⟩ := at_T59 (Kd.R_reads' HO_12.out).2.2 x14_1 p260 q260
             obtain rfl : ad255 = ad260 := (by injection e260)
             replace p260 := eq_true p260
             replace q260 := eq_true q260
             refine start_ (n := 34) (S := fun w' => w'.cell? (ad254.add ((x14_1).toNat * 2)) = some (.int .u64 ((rd_T59 t246 x14_1).f0)) ∧ w'.cell? ⟨(ad254.add ((x14_1).toNat * 2)).block, (ad254.add ((x14_1).toNat * 2)).off + 1, none⟩ = some (.int .u64 ((rd_T59 t246 x14_1).f1)) ∧ w'.cell? (ad255.add ((x14_1).toNat * 2)) = some (.int .u64 ((rd_T59 t250 x14_1).f0)) ∧ w'.cell? ⟨(ad255.add ((x14_1).toNat * 2)).block, (ad255.add ((x14_1).toNat * 2)).off + 1, none⟩ = some (.int .u64 ((rd_T59 t250 x14_1).f1)) ∧ w'.cell? (ad254.add ((x14_1).toNat * 2)) = some (.int .u64 ((rd_T59 t246 x14_1).f0)) ∧ w'.cell? ⟨(ad254.add ((x14_1).toNat * 2)).block, (ad254.add ((x14_1).toNat * 2)).off + 1, none⟩ = some (.int .u64 ((rd_T59 t246 x14_1).f1)) ∧ w'.cell? (ad254.add ((x14_1).toNat * 2)) = some (.int .u64 ((rd_T59 t246 x14_1).f0)) ∧ w'.cell? ⟨(ad254.add ((x14_1).toNat * 2)).block, (ad254.add ((x14_1).toNat * 2)).off + 1, none⟩ = some (.int .u64 ((rd_T59 t246 x14_1).f1)) ∧ w'.cell? (ad255.add ((x14_1).toNat * 2)) = some (.int .u64 ((rd_T59 t250 x14_1).f0)) ∧ w'.cell? ⟨(ad255.add ((x14_1).toNat * 2)).block, (ad255.add ((x14_1).toNat * 2)).off + 1, none⟩ = some (.int .u64 ((rd_T59 t250 x14_1).f1)) ∧ w'.cell? (ad255.add ((x14_1).toNat * 2)) = some (.int .u64 ((rd_T59 t250 x14_1).f0)) ∧ w'.cell? ⟨(ad255.add ((x14_1).toNat * 2)).block, (ad255.add ((x14_1).toNat * 2)).off + 1, none⟩ = some (.int .u64 ((rd_T59 t250 x14_1).f1))) (ds := []) #[false, false, false, false, false, false, false, false, false, false, false, false, false, false, false, false, false, false, false, false, false, false, false, false, false, false, false, false, false, false, false, false, false, false] (by kernel_rfl) rfl rfl ⟨hx254_0, hx254_1, hx255_0, hx255_1, hx256_0, hx256_1, hx257_0, hx257_1, hx259_0, hx259_1, hx260_0, hx260_1⟩ (fun hHeld => ?_); refine with_tabW merkle_Collide.tab8 merkle_Collide.bits8 (fun HT_ HW_ => ?_)
             generalize wc.drew = w35 at HO_10 HO_12 BK242 BK243 BK244 HB hx254_0 hx254_1 hx255_0 hx255_1 hx256_0 hx256_1 hx257_0 hx257_1 hx259_0 hx259_1 hx260_0 hx260_1 hHeld ⊢
             refine pure_ (i := 0) (N := some 52) (v := ?_) (a' := ?_) (bl_40 34 1) rfl rfl (any_of HT_.out (by kernel_rfl)) (fun _ _ _ h => h) (Or.inl ⟨by rfl, ?_⟩) ?_ ?_; rotate_left; (· intro w'; go_simp; with_reducible rfl); rotate_left; (· simp only [Act.put, setIfInBounds_toArray, set_cons_zero, set_cons_succ, i64_w, i32_w]; rfl)
             refine pure_ (i := 1) (N := some 53) (v := ?_) (a' := ?_) (bl_40 34 3) rfl rfl (any_of HT_.out (by kernel_rfl)) (fun _ _ _ h => h) (Or.inl ⟨by rfl, ?_⟩) ?_ ?_; rotate_left; (· intro w'; go_simp; with_reducible rfl); rotate_left; (· simp only [Act.put, setIfInBounds_toArray, set_cons_zero, set_cons_succ, i64_w, i32_w]; rfl)
             refine pure_ (i := 2) (N := some 54) (v := ?_) (a' := ?_) (bl_40 34 7) rfl rfl (any_of HT_.out (by kernel_rfl)) (fun _ _ _ h => h) (Or.inl ⟨by rfl, ?_⟩) ?_ ?_; rotate_left; (· intro w'; go_simp; with_reducible rfl); rotate_left; (· simp only [Act.put, setIfInBounds_toArray, set_cons_zero, set_cons_succ, i64_w, i32_w]; rfl)
             refine pure_ (i := 4) (N := some 56) (v := ?_) (a' := ?_) (bl_40 34 23) rfl rfl (any_of HT_.out (by kernel_rfl)) (fun _ _ _ h => h) (Or.inl ⟨by rfl, ?_⟩) ?_ ?_; rotate_left; (· intro w'; go_simp; with_reducible rfl); rotate_left; (· simp only [Act.put, setIfInBounds_toArray, set_cons_zero, set_cons_succ, i64_w, i32_w]; rfl)
             refine pure_ (i := 5) (N := some 57) (v := ?_) (a' := ?_) (bl_40 34 55) rfl rfl (any_of HT_.out (by kernel_rfl)) (fun _ _ _ h => h) (Or.inl ⟨by rfl, ?_⟩) ?_ ?_; rotate_left; (· intro w'; go_simp; with_reducible rfl); rotate_left; (· simp only [Act.put, setIfInBounds_toArray, set_cons_zero, set_cons_succ, i64_w, i32_w]; rfl)
             refine pure_ (i := 6) (N := some 58) (v := ?_) (a' := ?_) (bl_40 34 119) rfl rfl (any_of HT_.out (by kernel_rfl)) (fun _ _ _ h => h) (Or.inl ⟨by rfl, ?_⟩) ?_ ?_; rotate_left; (· intro w'; go_simp; with_reducible rfl); rotate_left; (· simp only [Act.put, setIfInBounds_toArray, set_cons_zero, set_cons_succ, i64_w, i32_w]; rfl)
             refine take_ (i := 3) (N := some 55) (v := ?_) (a' := ?_) (bl_40 34 127) rfl rfl (take_ofW HT_.out HW_.out (by kernel_rfl)) (fun _ _ _ h => h) (Or.inl ⟨by rfl, ?_⟩) hHeld ?_ ?_; rotate_left; (· rintro w' ⟨s0, s1, s2, s3, s4, s5, s6, s7, s8, s9, s10, s11⟩; go_simp; with_reducible rfl); rotate_left; (· simp only [Act.put, setIfInBounds_toArray, set_cons_zero, set_cons_succ, i64_w, i32_w]; rfl)
             refine take_ (i := 7) (N := some 59) (v := ?_) (a' := ?_) (bl_40 34 255) rfl rfl (take_ofW HT_.out HW_.out (by kernel_rfl)) (fun _ _ _ h => h) (Or.inl ⟨by rfl, ?_⟩) hHeld ?_ ?_; rotate_left; (· rintro w' ⟨s0, s1, s2, s3, s4, s5, s6, s7, s8, s9, s10, s11⟩; go_simp; with_reducible rfl); rotate_left; (· simp only [Act.put, setIfInBounds_toArray, set_cons_zero, set_cons_succ, i64_w, i32_w]; rfl)
             refine pure_ (i := 8) (N := some 60) (v := ?_) (a' := ?_) (bl_40 34 511) rfl rfl (any_of HT_.out (by kernel_rfl)) (fun _ _ _ h => h) (Or.inl ⟨by rfl, ?_⟩) ?_ ?_; rotate_left; (· intro w'; go_simp; with_reducible rfl); rotate_left; (· simp only [Act.put, setIfInBounds_toArray, set_cons_zero, set_cons_succ, i64_w, i32_w]; rfl)
             refine pure_ (i := 9) (N := some 61) (v := ?_) (a' := ?_) (bl_40 34 1023) rfl rfl (any_of HT_.out (by kernel_rfl)) (fun _ _ _ h => h) (Or.inl ⟨by rfl, ?_⟩) ?_ ?_; rotate_left; (· intro w'; go_simp; with_reducible rfl); rotate_left; (· simp only [Act.put, setIfInBounds_toArray, set_cons_zero, set_cons_succ, i64_w, i32_w]; rfl)
             refine pure_ (i := 10) (N := some 62) (v := ?_) (a' := ?_) (bl_40 34 2047) rfl rfl (any_of HT_.out (by kernel_rfl)) (fun _ _ _ h => h) (Or.inl ⟨by rfl, ?_⟩) ?_ ?_; rotate_left; (· intro w'; go_simp; with_reducible rfl); rotate_left; (· simp only [Act.put, setIfInBounds_toArray, set_cons_zero, set_cons_succ, i64_w, i32_w]; rfl)
             refine pure_ (i := 11) (N := some 63) (v := ?_) (a' := ?_) (bl_40 34 4095) rfl rfl (any_of HT_.out (by kernel_rfl)) (fun _ _ _ h => h) (Or.inl ⟨by rfl, ?_⟩) ?_ ?_; rotate_left; (· intro w'; go_simp; with_reducible rfl); rotate_left; (· simp only [Act.put, setIfInBounds_toArray, set_cons_zero, set_cons_succ, i64_w, i32_w]; rfl)
             refine pure_ (i := 12) (N := some 64) (v := ?_) (a' := ?_) (bl_40 34 8191) rfl rfl (any_of HT_.out (by kernel_rfl)) (fun _ _ _ h => h) (Or.inl ⟨by rfl, ?_⟩) ?_ ?_; rotate_left; (· intro w'; go_simp; with_reducible rfl); rotate_left; (· simp only [Act.put, setIfInBounds_toArray, set_cons_zero, set_cons_succ, i64_w, i32_w]; rfl)
             refine pure_ (i := 13) (N := some 65) (v := ?_) (a' := ?_) (bl_40 34 16383) rfl rfl (any_of HT_.out (by kernel_rfl)) (fun _ _ _ h => h) (Or.inl ⟨by rfl, ?_⟩) ?_ ?_; rotate_left; (· intro w'; go_simp; with_reducible rfl); rotate_left; (· simp only [Act.put, setIfInBounds_toArray, set_cons_zero, set_cons_succ, i64_w, i32_w]; rfl)
             refine pure_ (i := 15) (N := some 67) (v := ?_) (a' := ?_) (bl_40 34 49151) rfl rfl (any_of HT_.out (by kernel_rfl)) (fun _ _ _ h => h) (Or.inl ⟨by rfl, ?_⟩) ?_ ?_; rotate_left; (· intro w'; go_simp; with_reducible rfl); rotate_left; (· simp only [Act.put, setIfInBounds_toArray, set_cons_zero, set_cons_succ, i64_w, i32_w]; rfl)
             refine pure_ (i := 16) (N := some 68) (v := ?_) (a' := ?_) (bl_40 34 114687) rfl rfl (any_of HT_.out (by kernel_rfl)) (fun _ _ _ h => h) (Or.inl ⟨by rfl, ?_⟩) ?_ ?_; rotate_left; (· intro w'; go_simp; with_reducible rfl); rotate_left; (· simp only [Act.put, setIfInBounds_toArray, set_cons_zero, set_cons_succ, i64_w, i32_w]; rfl)
             refine pure_ (i := 17) (N := some 69) (v := ?_) (a' := ?_) (bl_40 34 245759) rfl rfl (any_of HT_.out (by kernel_rfl)) (fun _ _ _ h => h) (Or.inl ⟨by rfl, ?_⟩) ?_ ?_; rotate_left; (· intro w'; go_simp; with_reducible rfl); rotate_left; (· simp only [Act.put, setIfInBounds_toArray, set_cons_zero, set_cons_succ, i64_w, i32_w]; rfl)
             refine pure_ (i := 18) (N := some 70) (v := ?_) (a' := ?_) (bl_40 34 507903) rfl rfl (any_of HT_.out (by kernel_rfl)) (fun _ _ _ h => h) (Or.inl ⟨by rfl, ?_⟩) ?_ ?_; rotate_left; (· intro w'; go_simp; with_reducible rfl); rotate_left; (· simp only [Act.put, setIfInBounds_toArray, set_cons_zero, set_cons_succ, i64_w, i32_w]; rfl)
             refine pure_ (i := 21) (N := some 73) (v := ?_) (a' := ?_) (bl_40 34 2605055) rfl rfl (any_of HT_.out (by kernel_rfl)) (fun _ _ _ h => h) (Or.inl ⟨by rfl, ?_⟩) ?_ ?_; rotate_left; (· intro w'; go_simp; with_reducible rfl); rotate_left; (· simp only [Act.put, setIfInBounds_toArray, set_cons_zero, set_cons_succ, i64_w, i32_w]; rfl)
             refine pure_ (i := 22) (N := some 74) (v := ?_) (a' := ?_) (bl_40 34 6799359) rfl rfl (any_of HT_.out (by kernel_rfl)) (fun _ _ _ h => h) (Or.inl ⟨by rfl, ?_⟩) ?_ ?_; rotate_left; (· intro w'; go_simp; with_reducible rfl); rotate_left; (· simp only [Act.put, setIfInBounds_toArray, set_cons_zero, set_cons_succ, i64_w, i32_w]; rfl)
             refine pure_ (i := 23) (N := some 75) (v := ?_) (a' := ?_) (bl_40 34 15187967) rfl rfl (any_of HT_.out (by kernel_rfl)) (fun _ _ _ h => h) (Or.inl ⟨by rfl, ?_⟩) ?_ ?_; rotate_left; (· intro w'; go_simp; with_reducible rfl); rotate_left; (· simp only [Act.put, setIfInBounds_toArray, set_cons_zero, set_cons_succ, i64_w, i32_w]; rfl)
             refine pure_ (i := 24) (N := some 76) (v := ?_) (a' := ?_) (bl_40 34 31965183) rfl rfl (any_of HT_.out (by kernel_rfl)) (fun _ _ _ h => h) (Or.inl ⟨by rfl, ?_⟩) ?_ ?_; rotate_left; (· intro w'; go_simp; with_reducible rfl); rotate_left; (· simp only [Act.put, setIfInBounds_toArray, set_cons_zero, set_cons_succ, i64_w, i32_w]; rfl)
             refine pure_ (i := 26) (N := some 78) (v := ?_) (a' := ?_) (bl_40 34 99074047) rfl rfl (any_of HT_.out (by kernel_rfl)) (fun _ _ _ h => h) (Or.inl ⟨by rfl, ?_⟩) ?_ ?_; rotate_left; (· intro w'; go_simp; with_reducible rfl); rotate_left; (· simp only [Act.put, setIfInBounds_toArray, set_cons_zero, set_cons_succ, i64_w, i32_w]; rfl)
             refine pure_ (i := 27) (N := some 79) (v := ?_) (a' := ?_) (bl_40 34 233291775) rfl rfl (any_of HT_.out (by kernel_rfl)) (fun _ _ _ h => h) (Or.inl ⟨by rfl, ?_⟩) ?_ ?_; rotate_left; (· intro w'; go_simp; with_reducible rfl); rotate_left; (· simp only [Act.put, setIfInBounds_toArray, set_cons_zero, set_cons_succ, i64_w, i32_w]; rfl)
             refine pure_ (i := 28) (N := some 80) (v := ?_) (a' := ?_) (bl_40 34 501727231) rfl rfl (any_of HT_.out (by kernel_rfl)) (fun _ _ _ h => h) (Or.inl ⟨by rfl, ?_⟩) ?_ ?_; rotate_left; (· intro w'; go_simp; with_reducible rfl); rotate_left; (· simp only [Act.put, setIfInBounds_toArray, set_cons_zero, set_cons_succ, i64_w, i32_w]; rfl)
             refine pure_ (i := 29) (N := some 81) (v := ?_) (a' := ?_) (bl_40 34 1038598143) rfl rfl (any_of HT_.out (by kernel_rfl)) (fun _ _ _ h => h) (Or.inl ⟨by rfl, ?_⟩) ?_ ?_; rotate_left; (· intro w'; go_simp; with_reducible rfl); rotate_left; (· simp only [Act.put, setIfInBounds_toArray, set_cons_zero, set_cons_succ, i64_w, i32_w]; rfl)
             refine take_ (i := 14) (N := some 66) (v := ?_) (a' := ?_) (bl_40 34 1038614527) rfl rfl (take_ofW HT_.out HW_.out (by kernel_rfl)) (fun _ _ _ h => h) (Or.inl ⟨by rfl, ?_⟩) hHeld ?_ ?_; rotate_left; (· rintro w' ⟨s0, s1, s2, s3, s4, s5, s6, s7, s8, s9, s10, s11⟩; go_simp; with_reducible rfl); rotate_left; (· simp only [Act.put, setIfInBounds_toArray, set_cons_zero, set_cons_succ, i64_w, i32_w]; rfl)
             refine take_ (i := 19) (N := some 71) (v := ?_) (a' := ?_) (bl_40 34 1039138815) rfl rfl (take_ofW HT_.out HW_.out (by kernel_rfl)) (fun _ _ _ h => h) (Or.inl ⟨by rfl, ?_⟩) hHeld ?_ ?_; rotate_left; (· rintro w' ⟨s0, s1, s2, s3, s4, s5, s6, s7, s8, s9, s10, s11⟩; go_simp; with_reducible rfl); rotate_left; (· simp only [Act.put, setIfInBounds_toArray, set_cons_zero, set_cons_succ, i64_w, i32_w]; rfl)
             refine take_ (i := 25) (N := some 77) (v := ?_) (a' := ?_) (bl_40 34 1072693247) rfl rfl (take_ofW HT_.out HW_.out (by kernel_rfl)) (fun _ _ _ h => h) (Or.inl ⟨by rfl, ?_⟩) hHeld ?_ ?_; rotate_left; (· rintro w' ⟨s0, s1, s2, s3, s4, s5, s6, s7, s8, s9, s10, s11⟩; go_simp; with_reducible rfl); rotate_left; (· simp only [Act.put, setIfInBounds_toArray, set_cons_zero, set_cons_succ, i64_w, i32_w]; rfl)
             refine take_ (i := 30) (N := some 82) (v := ?_) (a' := ?_) (bl_40 34 2146435071) rfl rfl (take_ofW HT_.out HW_.out (by kernel_rfl)) (fun _ _ _ h => h) (Or.inl ⟨by rfl, ?_⟩) hHeld ?_ ?_; rotate_left; (· rintro w' ⟨s0, s1, s2, s3, s4, s5, s6, s7, s8, s9, s10, s11⟩; go_simp; with_reducible rfl); rotate_left; (· simp only [Act.put, setIfInBounds_toArray, set_cons_zero, set_cons_succ, i64_w, i32_w]; rfl)
             refine one_ (i := 20) (N := some 72) (bl_40 34 2147483647) rfl rfl (one_of HT_.out (by kernel_rfl)) (by decide) (fun K hK => ?_)
             refine goes_ Try.func21 (by kernel_rfl) rfl #[.int .u64 ((rd_T59 t246 x14_1).f0), .int .u64 ((rd_T59 t246 x14_1).f1)] (by rfl) rfl rfl (by (try simp only [map_toArray, map_cons, map_nil]); first | done | rfl) ?_
             with_reducible refine (digest_Join.calls ((rd_T59 t246 x14_1).f0) ((rd_T59 t246 x14_1).f1) t258 _ A32.out).mono ?_
             rintro e w' ⟨rfl, ⟨nd, rfl⟩⟩
             refine ⟨_, rfl, ?_⟩
             refine hK.out _ _ ⟨hHeld.1, hHeld.2.1, hHeld.2.2.1, hHeld.2.2.2.1, hHeld.2.2.2.2.1, hHeld.2.2.2.2.2.1, hHeld.2.2.2.2.2.2.1, hHeld.2.2.2.2.2.2.2.1, hHeld.2.2.2.2.2.2.2.2.1, hHeld.2.2.2.2.2.2.2.2.2.1, hHeld.2.2.2.2.2.2.2.2.2.2.1, hHeld.2.2.2.2.2.2.2.2.2.2.2⟩ (fun hHeld => ?_)
             clear hK K
             refine norm_ (a' := ?_) ?_ ?_
             rotate_left
             ·
              show Act.put _ (some 72) _ = _
              simp only [Act.put, setIfInBounds_toArray, set_cons_zero, set_cons_succ, i64_w, i32_w]
              rfl
             refine one_ (i := 31) (N := some 83) (bl_40 34 4294967295) rfl rfl (one_of HT_.out (by kernel_rfl)) (by decide) (fun K hK => ?_)
             refine goes_ Try.func21 (by kernel_rfl) rfl #[.int .u64 ((rd_T59 t250 x14_1).f0), .int .u64 ((rd_T59 t250 x14_1).f1)] (by rfl) rfl rfl (by (try simp only [map_toArray, map_cons, map_nil]); first | done | rfl) ?_
             with_reducible refine (digest_Join.calls ((rd_T59 t250 x14_1).f0) ((rd_T59 t250 x14_1).f1) t261 _ A33.out).mono ?_
             rintro e w' ⟨rfl, ⟨nd, rfl⟩⟩
             refine ⟨_, rfl, ?_⟩
             refine hK.out _ _ ⟨hHeld.1, hHeld.2.1, hHeld.2.2.1, hHeld.2.2.2.1, hHeld.2.2.2.2.1, hHeld.2.2.2.2.2.1, hHeld.2.2.2.2.2.2.1, hHeld.2.2.2.2.2.2.2.1, hHeld.2.2.2.2.2.2.2.2.1, hHeld.2.2.2.2.2.2.2.2.2.1, hHeld.2.2.2.2.2.2.2.2.2.2.1, hHeld.2.2.2.2.2.2.2.2.2.2.2⟩ (fun hHeld => ?_)
             clear hK K
             refine norm_ (a' := ?_) ?_ ?_
             rotate_left
             ·
              show Act.put _ (some 83) _ = _
              simp only [Act.put, setIfInBounds_toArray, set_cons_zero, set_cons_succ, i64_w, i32_w]
              rfl
             refine pure_ (i := 32) (N := some 84) (v := ?_) (a' := ?_) (bl_40 34 8589934591) rfl rfl (any_of HT_.out (by kernel_rfl)) (fun _ _ _ h => h) (Or.inl ⟨by rfl, ?_⟩) ?_ ?_; rotate_left; (· intro w'; go_simp; with_reducible rfl); rotate_left; (· simp only [Act.put, setIfInBounds_toArray, set_cons_zero, set_cons_succ, i64_w, i32_w]; rfl)
             refine pure_ (i := 33) (N := some 85) (v := ?_) (a' := ?_) (bl_40 34 17179869183) rfl rfl (any_of HT_.out (by kernel_rfl)) (fun _ _ _ h => h) (Or.inl ⟨by rfl, ?_⟩) ?_ ?_; rotate_left; (· intro w'; go_simp; with_reducible rfl); rotate_left; (· simp only [Act.put, setIfInBounds_toArray, set_cons_zero, set_cons_succ, i64_w, i32_w]; rfl)
             refine done_ (done_of HT_.out (by kernel_rfl)) ?_
             try go_wp2
             (try (rw [drewN_self w35]; generalize hq_ : World.drewN w35 _ = w35; have n0_ : Aside0 (Kd.R k59 59 w35 w.heap.size (fun k_ => some k_ ≠ (.slice (some ad255) t250.length co37 : Value).ownBlock) (.slice (some ad254) t246.length co36) t246) := ⟨by rw [← hq_]; exact (by (with_reducible repeat (first | apply Kd.R_alloc | apply Kd.R_drewN | apply Kd.R_drew)); exact HO_10.out)⟩; have n1_ : Aside0 (Kd.R k59 59 w35 w.heap.size (fun k_ => some k_ ≠ (.slice (some ad254) t246.length co36 : Value).ownBlock) (.slice (some ad255) t250.length co37) t250) := ⟨by rw [← hq_]; exact (by (with_reducible repeat (first | apply Kd.R_alloc | apply Kd.R_drewN | apply Kd.R_drew)); exact HO_12.out)⟩; have n2_ : Aside0 (w35.heap[gb242]? = some (.cells #[.int .u64 a2_0, .slice A2_1 l2_1.length c2_1] 50 (0, 0))) := ⟨by rw [← hq_]; exact (by (with_reducible repeat (first | refine blk_drewN ?_ _ | refine blk_drew ?_ | refine blk_alloc ?_ _)); exact BK242.out)⟩; have n3_ : Aside0 (w35.heap[gb243]? = some (.cells #[.int .u64 a3_0, .slice A3_1 l3_1.length c3_1] 50 (0, 0))) := ⟨by rw [← hq_]; exact (by (with_reducible repeat (first | refine blk_drewN ?_ _ | refine blk_drew ?_ | refine blk_alloc ?_ _)); exact BK243.out)⟩; have n4_ : Aside0 (w35.heap[gb244]? = some (.cells #[.int .u64 x245000_1, .int .u64 x245001_1, .int .u64 x245002_1, .int .u64 x245003_1] 60 (0, 0))) := ⟨by rw [← hq_]; exact (by (with_reducible repeat (first | refine blk_drewN ?_ _ | refine blk_drew ?_ | refine blk_alloc ?_ _)); exact BK244.out)⟩; have n5_ : Aside0 (Below w.heap.size w w35) := ⟨by rw [← hq_]; exact (by repeat (first | (with_reducible first | exact HB.out | apply below_alloc | apply pw_below_drewN | apply below_drew1 | refine below_set ?_ GE242.out | refine below_set ?_ GE243.out | refine below_set ?_ GE244.out) | exact HB.out))⟩; clear HO_10 HO_12 BK242 BK243 BK244 HB hq_; have HO_10 := n0_; have HO_12 := n1_; have BK242 := n2_; have BK243 := n3_; have BK244 := n4_; have HB := n5_; clear n0_ n1_ n2_ n3_ n4_ n5_))
             have n0_ := Aside0.mk (Kd.R_drew HO_10.out)
             have n1_ := Aside0.mk (Kd.R_drew HO_12.out)
             have n2_ := Aside0.mk (blk_drew BK242.out)
             have n3_ := Aside0.mk (blk_drew BK243.out)
             have n4_ := Aside0.mk (blk_drew BK244.out)
             have n5_ := Aside0.mk (below_drew1 HB.out)
             clear HO_10
             clear HO_12
             clear BK242
             clear BK243
             clear BK244
             clear HB
             have HO_10 := n0_
             have HO_12 := n1_
             have BK242 := n2_
             have BK243 := n3_
             have BK244 := n4_
             have HB := n5_
             clear n0_ n1_ n2_ n3_ n4_ n5_
             have p262 : 0 ≤ (x14_1 : Int) := of_decide_eq_true (by first | (with_reducible assumption) | assumption)
             have q262 : x14_1 < (t246.length : Int) := of_decide_eq_true (by first | (with_reducible assumption) | assumption)
             obtain ⟨ad262, e262, hx262_0, hx262_1⟩ := at_T59 (Kd.R_reads' HO_10.out).2.2 x14_1 p262 q262
             obtain rfl : ad254 = ad262 := (by injection e262)
             replace p262 := eq_true p262
             replace q262 := eq_true q262
             have p263 : 0 ≤ (x14_1 : Int) := of_decide_eq_true (by first | (with_reducible assumption) | assumption)
             have q263 : x14_1 < (t250.length : Int) := of_decide_eq_true (by first | (with_reducible assumption) | assumption)
             obtain ⟨ad263, e263, hx263_0, hx263_1⟩ := at_T59 (Kd.R_reads' HO_12.out).2.2 x14_1 p263 q263
             obtain rfl : ad255 = ad263 := (by injection e263)
             replace p263 := eq_true p263
             replace q263 := eq_true q263
             refine start_ (n := 11) (S := fun w' => w'.cell? (ad254.add ((x14_1).toNat * 2)) = some (.int .u64 ((rd_T59 t246 x14_1).f0)) ∧ w'.cell? ⟨(ad254.add ((x14_1).toNat * 2)).block, (ad254.add ((x14_1).toNat * 2)).off + 1, none⟩ = some (.int .u64 ((rd_T59 t246 x14_1).f1)) ∧ w'.cell? (ad255.add ((x14_1).toNat * 2)) = some (.int .u64 ((rd_T59 t250 x14_1).f0)) ∧ w'.cell? ⟨(ad255.add ((x14_1).toNat * 2)).block, (ad255.add ((x14_1).toNat * 2)).off + 1, none⟩ = some (.int .u64 ((rd_T59 t250 x14_1).f1))) (ds := []) #[false, false, false, false, false, false, false, false, false, false, false] (by kernel_rfl) rfl rfl ⟨hx262_0, hx262_1, hx263_0, hx263_1⟩ (fun hHeld => ?_); refine with_tabW merkle_Collide.tab9 merkle_Collide.bits9 (fun HT_ HW_ => ?_)
             generalize w35.drew = w38 at HO_10 HO_12 BK242 BK243 BK244 HB hx262_0 hx262_1 hx263_0 hx263_1 hHeld ⊢
             refine pure_ (i := 0) (N := some 86) (v := ?_) (a' := ?_) (bl_40 11 1) rfl rfl (any_of HT_.out (by kernel_rfl)) (fun _ _ _ h => h) (Or.inl ⟨by rfl, ?_⟩) ?_ ?_; rotate_left; (· intro w'; go_simp; with_reducible rfl); rotate_left; (· simp only [Act.put, setIfInBounds_toArray, set_cons_zero, set_cons_succ, i64_w, i32_w]; rfl)
             refine pure_ (i := 1) (N := some 87) (v := ?_) (a' := ?_) (bl_40 11 3) rfl rfl (any_of HT_.out (by kernel_rfl)) (fun _ _ _ h => h) (Or.inl ⟨by rfl, ?_⟩) ?_ ?_; rotate_left; (· intro w'; go_simp; with_reducible rfl); rotate_left; (· simp only [Act.put, setIfInBounds_toArray, set_cons_zero, set_cons_succ, i64_w, i32_w]; rfl)
             refine pure_ (i := 2) (N := some 88) (v := ?_) (a' := ?_) (bl_40 11 7) rfl rfl (any_of HT_.out (by kernel_rfl)) (fun _ _ _ h => h) (Or.inl ⟨by rfl, ?_⟩) ?_ ?_; rotate_left; (· intro w'; go_simp; with_reducible rfl); rotate_left; (· simp only [Act.put, setIfInBounds_toArray, set_cons_zero, set_cons_succ, i64_w, i32_w]; rfl)
             refine pure_ (i := 4) (N := some 90) (v := ?_) (a' := ?_) (bl_40 11 23) rfl rfl (any_of HT_.out (by kernel_rfl)) (fun _ _ _ h => h) (Or.inl ⟨by rfl, ?_⟩) ?_ ?_; rotate_left; (· intro w'; go_simp; with_reducible rfl); rotate_left; (· simp only [Act.put, setIfInBounds_toArray, set_cons_zero, set_cons_succ, i64_w, i32_w]; rfl)
             refine pure_ (i := 5) (N := some 91) (v := ?_) (a' := ?_) (bl_40 11 55) rfl rfl (any_of HT_.out (by kernel_rfl)) (fun _ _ _ h => h) (Or.inl ⟨by rfl, ?_⟩) ?_ ?_; rotate_left; (· intro w'; go_simp; with_reducible rfl); rotate_left; (· simp only [Act.put, setIfInBounds_toArray, set_cons_zero, set_cons_succ, i64_w, i32_w]; rfl)
             refine pure_ (i := 6) (N := some 92) (v := ?_) (a' := ?_) (bl_40 11 119) rfl rfl (any_of HT_.out (by kernel_rfl)) (fun _ _ _ h => h) (Or.inl ⟨by rfl, ?_⟩) ?_ ?_; rotate_left; (· intro w'; go_simp; with_reducible rfl); rotate_left; (· simp only [Act.put, setIfInBounds_toArray, set_cons_zero, set_cons_succ, i64_w, i32_w]; rfl)
             refine take_ (i := 3) (N := some 89) (v := ?_) (a' := ?_) (bl_40 11 127) rfl rfl (take_ofW HT_.out HW_.out (by kernel_rfl)) (fun _ _ _ h => h) (Or.inl ⟨by rfl, ?_⟩) hHeld ?_ ?_; rotate_left; (· rintro w' ⟨s0, s1, s2, s3⟩; go_simp; with_reducible rfl); rotate_left; (· simp only [Act.put, setIfInBounds_toArray, set_cons_zero, set_cons_succ, i64_w, i32_w]; rfl)
             refine take_ (i := 7) (N := some 93) (v := ?_) (a' := ?_) (bl_40 11 255) rfl rfl (take_ofW HT_.out HW_.out (by kernel_rfl)) (fun _ _ _ h => h) (Or.inl ⟨by rfl, ?_⟩) hHeld ?_ ?_; rotate_left; (· rintro w' ⟨s0, s1, s2, s3⟩; go_simp; with_reducible rfl); rotate_left; (· simp only [Act.put, setIfInBounds_toArray, set_cons_zero, set_cons_succ, i64_w, i32_w]; rfl)
             refine pure_ (i := 8) (N := some 94) (v := ?_) (a' := ?_) (bl_40 11 511) rfl rfl (any_of HT_.out (by kernel_rfl)) (fun _ _ _ h => h) (Or.inl ⟨by rfl, ?_⟩) ?_ ?_; rotate_left; (· intro w'; go_simp; with_reducible rfl); rotate_left; (· simp only [Act.put, setIfInBounds_toArray, set_cons_zero, set_cons_succ, i64_w, i32_w]; rfl)
             refine one_ (i := 9) (N := none) (bl_40 11 1023) rfl rfl (one_of HT_.out (by kernel_rfl)) (by decide) (fun K hK => ?_)
             have hs39 : w38.cell? ⟨gb244, 0, none⟩ = some (.int .u64 x245000_1) := (blk_cell BK244.out 0).trans rfl
             have hfs39 := blk_frozen BK244.out 0
             have hns39_0 := NB242_244.out
             have hns39_1 := NB243_244.out
             have hms39_0 := NB244_242.out
             have hms39_1 := NB244_243.out
             have hs40 : w38.cell? ⟨gb244, 1, none⟩ = some (.int .u64 x245001_1) := (blk_cell BK244.out 1).trans rfl
             have hfs40 := blk_frozen BK244.out 1
             have hns40_0 := NB242_244.out
             have hns40_1 := NB243_244.out
             have hms40_0 := NB244_242.out
             have hms40_1 := NB244_243.out
             have hs41 : w38.cell? ⟨gb244, 2, none⟩ = some (.int .u64 x245002_1) := (blk_cell BK244.out 2).trans rfl
             have hfs41 := blk_frozen BK244.out 2
             have hns41_0 := NB242_244.out
             have hns41_1 := NB243_244.out
             have hms41_0 := NB244_242.out
             have hms41_1 := NB244_243.out
             have hs42 : w38.cell? ⟨gb244, 3, none⟩ = some (.int .u64 x245003_1) := (blk_cell BK244.out 3).trans rfl
             have hfs42 := blk_frozen BK244.out 3
             have hns42_0 := NB242_244.out
             have hns42_1 := NB243_244.out
             have hms42_0 := NB244_242.out
             have hms42_1 := NB244_243.out
             refine skip_ (w1 := ?_) (by rfl) rfl ?_ ?_
             rotate_left
             ·
              go_simp
              rfl
             refine hK.out _ _ ⟨((cell_far (p := ⟨gb244, _, none⟩) (by first | exact Kd.own_blk (Kd.R_ne HO_10.out BK244.out (by decide)) | (rw [add_block]; exact Kd.own_blk (Kd.R_ne HO_10.out BK244.out (by decide))) | (show (Addr.add _ _).block ≠ _; rw [add_block]; exact Kd.own_blk (Kd.R_ne HO_10.out BK244.out (by decide))) | (dsimp only; exact Kd.own_blk (Kd.R_ne HO_10.out BK244.out (by decide)))) _).trans (((cell_far (p := ⟨gb244, _, none⟩) (by first | exact Kd.own_blk (Kd.R_ne HO_10.out BK244.out (by decide)) | (rw [add_block]; exact Kd.own_blk (Kd.R_ne HO_10.out BK244.out (by decide))) | (show (Addr.add _ _).block ≠ _; rw [add_block]; exact Kd.own_blk (Kd.R_ne HO_10.out BK244.out (by decide))) | (dsimp only; exact Kd.own_blk (Kd.R_ne HO_10.out BK244.out (by decide)))) _).trans (((cell_far (p := ⟨gb244, _, none⟩) (by first | exact Kd.own_blk (Kd.R_ne HO_10.out BK244.out (by decide)) | (rw [add_block]; exact Kd.own_blk (Kd.R_ne HO_10.out BK244.out (by decide))) | (show (Addr.add _ _).block ≠ _; rw [add_block]; exact Kd.own_blk (Kd.R_ne HO_10.out BK244.out (by decide))) | (dsimp only; exact Kd.own_blk (Kd.R_ne HO_10.out BK244.out (by decide)))) _).trans (((cell_far (p := ⟨gb244, _, none⟩) (by first | exact Kd.own_blk (Kd.R_ne HO_10.out BK244.out (by decide)) | (rw [add_block]; exact Kd.own_blk (Kd.R_ne HO_10.out BK244.out (by decide))) | (show (Addr.add _ _).block ≠ _; rw [add_block]; exact Kd.own_blk (Kd.R_ne HO_10.out BK244.out (by decide))) | (dsimp only; exact Kd.own_blk (Kd.R_ne HO_10.out BK244.out (by decide)))) _).trans (hHeld.1)))))))), ((cell_far (p := ⟨gb244, _, none⟩) (by first | exact Kd.own_blk (Kd.R_ne HO_10.out BK244.out (by decide)) | (rw [add_block]; exact Kd.own_blk (Kd.R_ne HO_10.out BK244.out (by decide))) | (show (Addr.add _ _).block ≠ _; rw [add_block]; exact Kd.own_blk (Kd.R_ne HO_10.out BK244.out (by decide))) | (dsimp only; exact Kd.own_blk (Kd.R_ne HO_10.out BK244.out (by decide)))) _).trans (((cell_far (p := ⟨gb244, _, none⟩) (by first | exact Kd.own_blk (Kd.R_ne HO_10.out BK244.out (by decide)) | (rw [add_block]; exact Kd.own_blk (Kd.R_ne HO_10.out BK244.out (by decide))) | (show (Addr.add _ _).block ≠ _; rw [add_block]; exact Kd.own_blk (Kd.R_ne HO_10.out BK244.out (by decide))) | (dsimp only; exact Kd.own_blk (Kd.R_ne HO_10.out BK244.out (by decide)))) _).trans (((cell_far (p := ⟨gb244, _, none⟩) (by first | exact Kd.own_blk (Kd.R_ne HO_10.out BK244.out (by decide)) | (rw [add_block]; exact Kd.own_blk (Kd.R_ne HO_10.out BK244.out (by decide))) | (show (Addr.add _ _).block ≠ _; rw [add_block]; exact Kd.own_blk (Kd.R_ne HO_10.out BK244.out (by decide))) | (dsimp only; exact Kd.own_blk (Kd.R_ne HO_10.out BK244.out (by decide)))) _).trans (((cell_far (p := ⟨gb244, _, none⟩) (by first | exact Kd.own_blk (Kd.R_ne HO_10.out BK244.out (by decide)) | (rw [add_block]; exact Kd.own_blk (Kd.R_ne HO_10.out BK244.out (by decide))) | (show (Addr.add _ _).block ≠ _; rw [add_block]; exact Kd.own_blk (Kd.R_ne HO_10.out BK244.out (by decide))) | (dsimp only; exact Kd.own_blk (Kd.R_ne HO_10.out BK244.out (by decide)))) _).trans (hHeld.2.1)))))))), ((cell_far (p := ⟨gb244, _, none⟩) (by first | exact Kd.own_blk (Kd.R_ne HO_12.out BK244.out (by decide)) | (rw [add_block]; exact Kd.own_blk (Kd.R_ne HO_12.out BK244.out (by decide))) | (show (Addr.add _ _).block ≠ _; rw [add_block]; exact Kd.own_blk (Kd.R_ne HO_12.out BK244.out (by decide))) | (dsimp only; exact Kd.own_blk (Kd.R_ne HO_12.out BK244.out (by decide)))) _).trans (((cell_far (p := ⟨gb244, _, none⟩) (by first | exact Kd.own_blk (Kd.R_ne HO_12.out BK244.out (by decide)) | (rw [add_block]; exact Kd.own_blk (Kd.R_ne HO_12.out BK244.out (by decide))) | (show (Addr.add _ _).block ≠ _; rw [add_block]; exact Kd.own_blk (Kd.R_ne HO_12.out BK244.out (by decide))) | (dsimp only; exact Kd.own_blk (Kd.R_ne HO_12.out BK244.out (by decide)))) _).trans (((cell_far (p := ⟨gb244, _, none⟩) (by first | exact Kd.own_blk (Kd.R_ne HO_12.out BK244.out (by decide)) | (rw [add_block]; exact Kd.own_blk (Kd.R_ne HO_12.out BK244.out (by decide))) | (show (Addr.add _ _).block ≠ _; rw [add_block]; exact Kd.own_blk (Kd.R_ne HO_12.out BK244.out (by decide))) | (dsimp only; exact Kd.own_blk (Kd.R_ne HO_12.out BK244.out (by decide)))) _).trans (((cell_far (p := ⟨gb244, _, none⟩) (by first | exact Kd.own_blk (Kd.R_ne HO_12.out BK244.out (by decide)) | (rw [add_block]; exact Kd.own_blk (Kd.R_ne HO_12.out BK244.out (by decide))) | (show (Addr.add _ _).block ≠ _; rw [add_block]; exact Kd.own_blk (Kd.R_ne HO_12.out BK244.out (by decide))) | (dsimp only; exact Kd.own_blk (Kd.R_ne HO_12.out BK244.out (by decide)))) _).trans (hHeld.2.2.1)))))))), ((cell_far (p := ⟨gb244, _, none⟩) (by first | exact Kd.own_blk (Kd.R_ne HO_12.out BK244.out (by decide)) | (rw [add_block]; exact Kd.own_blk (Kd.R_ne HO_12.out BK244.out (by decide))) | (show (Addr.add _ _).block ≠ _; rw [add_block]; exact Kd.own_blk (Kd.R_ne HO_12.out BK244.out (by decide))) | (dsimp only; exact Kd.own_blk (Kd.R_ne HO_12.out BK244.out (by decide)))) _).trans (((cell_far (p := ⟨gb244, _, none⟩) (by first | exact Kd.own_blk (Kd.R_ne HO_12.out BK244.out (by decide)) | (rw [add_block]; exact Kd.own_blk (Kd.R_ne HO_12.out BK244.out (by decide))) | (show (Addr.add _ _).block ≠ _; rw [add_block]; exact Kd.own_blk (Kd.R_ne HO_12.out BK244.out (by decide))) | (dsimp only; exact Kd.own_blk (Kd.R_ne HO_12.out BK244.out (by decide)))) _).trans (((cell_far (p := ⟨gb244, _, none⟩) (by first | exact Kd.own_blk (Kd.R_ne HO_12.out BK244.out (by decide)) | (rw [add_block]; exact Kd.own_blk (Kd.R_ne HO_12.out BK244.out (by decide))) | (show (Addr.add _ _).block ≠ _; rw [add_block]; exact Kd.own_blk (Kd.R_ne HO_12.out BK244.out (by decide))) | (dsimp only; exact Kd.own_blk (Kd.R_ne HO_12.out BK244.out (by decide)))) _).trans (((cell_far (p := ⟨gb244, _, none⟩) (by first | exact Kd.own_blk (Kd.R_ne HO_12.out BK244.out (by decide)) | (rw [add_block]; exact Kd.own_blk (Kd.R_ne HO_12.out BK244.out (by decide))) | (show (Addr.add _ _).block ≠ _; rw [add_block]; exact Kd.own_blk (Kd.R_ne HO_12.out BK244.out (by decide))) | (dsimp only; exact Kd.own_blk (Kd.R_ne HO_12.out BK244.out (by decide)))) _).trans (hHeld.2.2.2))))))))⟩ (fun hHeld => ?_)
             clear hK K
             refine pure_ (i := 10) (N := some 9) (v := ?_) (a' := ?_) (bl_40 11 2047) rfl rfl (any_of HT_.out (by kernel_rfl)) (fun _ _ _ h => h) (Or.inl ⟨by rfl, ?_⟩) ?_ ?_; rotate_left; (· intro w'; go_simp; with_reducible rfl); rotate_left; (· simp only [Act.put, setIfInBounds_toArray, set_cons_zero, set_cons_succ, i64_w, i32_w]; rfl)
             refine done_ (done_of HT_.out (by kernel_rfl)) ?_
             try go_wp2
             refine bodyPost_ret (results_ct rfl _ _ gb244 60 #[.int .u64 ((rd_T59 t246 x14_1).f0), .int .u64 ((rd_T59 t246 x14_1).f1), .int .u64 ((rd_T59 t250 x14_1).f0), .int .u64 ((rd_T59 t250 x14_1).f1)] (0, 0) _ rfl (by (with_reducible repeat (first | refine blk_drewN ?_ _ | refine blk_drew ?_ | refine blk_alloc ?_ _)); refine blk_put (cs := #[.int .u64 ((rd_T59 t246 x14_1).f0), .int .u64 ((rd_T59 t246 x14_1).f1), .int .u64 ((rd_T59 t250 x14_1).f0), .int .u64 x245003_1]) ?_ 3 _ rfl; (with_reducible repeat (first | refine blk_drewN ?_ _ | refine blk_drew ?_ | refine blk_alloc ?_ _)); refine blk_put (cs := #[.int .u64 ((rd_T59 t246 x14_1).f0), .int .u64 ((rd_T59 t246 x14_1).f1), .int .u64 x245002_1, .int .u64 x245003_1]) ?_ 2 _ rfl; (with_reducible repeat (first | refine blk_drewN ?_ _ | refine blk_drew ?_ | refine blk_alloc ?_ _)); refine blk_put (cs := #[.int .u64 ((rd_T59 t246 x14_1).f0), .int .u64 x245001_1, .int .u64 x245002_1, .int .u64 x245003_1]) ?_ 1 _ rfl; (with_reducible repeat (first | refine blk_drewN ?_ _ | refine blk_drew ?_ | refine blk_alloc ?_ _)); refine blk_put (cs := #[.int .u64 x245000_1, .int .u64 x245001_1, .int .u64 x245002_1, .int .u64 x245003_1]) ?_ 0 _ rfl; (with_reducible repeat (first | refine blk_drewN ?_ _ | refine blk_drew ?_ | refine blk_alloc ?_ _)); exact BK244.out) Try.underlying60 rfl (by kernel_rfl)) rfl ?_
             exact ⟨by first | rfl | (simp [errW_none, errW_some] <;> rfl) | (simp [*, errW_none, errW_some] <;> rfl), by repeat (first | (with_reducible first | exact HB.out | apply below_alloc | apply pw_below_drewN | apply below_drew1 | refine below_set ?_ GE242.out | refine below_set ?_ GE243.out | refine below_set ?_ GE244.out) | exact HB.out)⟩
            ·
             rw [if_neg c34] at H
             have c34b0 : (t258 == t261) = false := beq_eq_false_iff_ne.mpr c34
             have c34b1 : (t258 != t261) = true := bne_iff_ne.mpr c34
             have H' := Aside0.mk H
             clear H
             try go_wp2
             have n0_ := Aside0.mk (Kd.R_drew HO_10.out)
             have n1_ := Aside0.mk (Kd.R_drew HO_12.out)
             have n2_ := Aside0.mk (blk_drew BK242.out)
             have n3_ := Aside0.mk (blk_drew BK243.out)
             have n4_ := Aside0.mk (blk_drew BK244.out)
             have n5_ := Aside0.mk (below_drew1 HB.out)
             clear HO_10
             clear HO_12
             clear BK242
             clear BK243
             clear BK244
             clear HB
             have HO_10 := n0_
             have HO_12 := n1_
             have BK242 := n2_
             have BK243 := n3_
             have BK244 := n4_
             have HB := n5_
             clear n0_ n1_ n2_ n3_ n4_ n5_
             obtain ⟨Ao44, co44, eo44⟩ := Kd.R_slice HO_10.out
             (first | subst eo44 | (injection eo44 with f1_ f2_ f3_; have f4_ := f1_.symm; have f5_ := f3_.symm; clear f1_ f2_ f3_; subst f4_; subst f5_))
             have p254 : 0 ≤ (x14_1 : Int) := of_decide_eq_true (by first | (with_reducible assumption) | assumption)
             have q254 : x14_1 < (t246.length : Int) := of_decide_eq_true (by first | (with_reducible assumption) | assumption)
             obtain ⟨ad254, e254, hx254_0, hx254_1⟩ := at_T59 (Kd.R_reads' HO_10.out).2.2 x14_1 p254 q254
             cases e254
             replace p254 := eq_true p254
             replace q254 := eq_true q254
             obtain ⟨Ao45, co45, eo45⟩ := Kd.R_slice HO_12.out
             (first | subst eo45 | (injection eo45 with f1_ f2_ f3_; have f4_ := f1_.symm; have f5_ := f3_.symm; clear f1_ f2_ f3_; subst f4_; subst f5_))
             have p255 : 0 ≤ (x14_1 : Int) := of_decide_eq_true (by first | (with_reducible assumption) | assumption)
             have q255 : x14_1 < (t250.length : Int) := of_decide_eq_true (by first | (with_reducible assumption) | assumption)
             obtain ⟨ad255, e255, hx255_0, hx255_1⟩ := at_T59 (Kd.R_reads' HO_12.out).2.2 x14_1 p255 q255
             cases e255
             replace p255 := eq_true p255
             replace q255 := eq_true q255
             have p256 : 0 ≤ (x14_1 : Int) := of_decide_eq_true (by first | (with_reducible assumption) | assumption)
             have q256 : x14_1 < (t246.length : Int) := of_decide_eq_true (by first | (with_reducible assumption) | assumption)
             obtain ⟨ad256, e256, hx256_0, hx256_1⟩ := at_T59 (Kd.R_reads' HO_10.out).2.2 x14_1 p256 q256
             obtain rfl : ad254 = ad256 := (by injection e256)
             replace p256 := eq_true p256
             replace q256 := eq_true q256
             have p257 : 0 ≤ (x14_1 : Int) := of_decide_eq_true (by first | (with_reducible assumption) | assumption)
             have q257 : x14_1 < (t246.length : Int) := of_decide_eq_true (by first | (with_reducible assumption) | assumption)
             obtain ⟨ad257, e257, hx257_0, hx257_1⟩ := at_T59 (Kd.R_reads' HO_10.out).2.2 x14_1 p257 q257
             obtain rfl : ad254 = ad257 := (by injection e257)
             replace p257 := eq_true p257
             replace q257 := eq_true q257
             have p259 : 0 ≤ (x14_1 : Int) := of_decide_eq_true (by first | (with_reducible assumption) | assumption)
             have q259 : x14_1 < (t250.length : Int) := of_decide_eq_true (by first | (with_reducible assumption) | assumption)
             obtain ⟨ad259, e259, hx259_0, hx259_1⟩ := at_T59 (Kd.R_reads' HO_12.out).2.2 x14_1 p259 q259
             obtain rfl : ad255 = ad259 := (by injection e259)
             replace p259 := eq_true p259
             replace q259 := eq_true q259
             have p260 : 0 ≤ (x14_1 : Int) := of_decide_eq_true (by first | (with_reducible assumption) | assumption)
             have q260 : x14_1 < (t250.length : Int) := of_decide_eq_true (by first | (with_reducible assumption) | assumption)
             obtain ⟨ad260, e260, hx260_0, hx260_1⟩ := at_T59 (Kd.R_reads' HO_12.out).2.2 x14_1 p260 q260
             obtain rfl : ad255 = ad260 := (by injection e260)
             replace p260 := eq_true p260
             replace q260 := eq_true q260
             refine start_ (n := 34) (S := fun w' => w'.cell? (ad254.add ((x14_1).toNat * 2)) = some (.int .u64 ((rd_T59 t246 x14_1).f0)) ∧ w'.cell? ⟨(ad254.add ((x14_1).toNat * 2)).block, (ad254.add ((x14_1).toNat * 2)).off + 1, none⟩ = some (.int .u64 ((rd_T59 t246 x14_1).f1)) ∧ w'.cell? (ad255.add ((x14_1).toNat * 2)) = some (.int .u64 ((rd_T59 t250 x14_1).f0)) ∧ w'.cell? ⟨(ad255.add ((x14_1).toNat * 2)).block, (ad255.add ((x14_1).toNat * 2)).off + 1, none⟩ = some (.int .u64 ((rd_T59 t250 x14_1).f1)) ∧ w'.cell? (ad254.add ((x14_1).toNat * 2)) = some (.int .u64 ((rd_T59 t246 x14_1).f0)) ∧ w'.cell? ⟨(ad254.add ((x14_1).toNat * 2)).block, (ad254.add ((x14_1).toNat * 2)).off + 1, none⟩ = some (.int .u64 ((rd_T59 t246 x14_1).f1)) ∧ w'.cell? (ad254.add ((x14_1).toNat * 2)) = some (.int .u64 ((rd_T59 t246 x14_1).f0)) ∧ w'.cell? ⟨(ad254.add ((x14_1).toNat * 2)).block, (ad254.add ((x14_1).toNat * 2)).off + 1, none⟩ = some (.int .u64 ((rd_T59 t246 x14_1).f1)) ∧ w'.cell? (ad255.add ((x14_1).toNat * 2)) = some (.int .u64 ((rd_T59 t250 x14_1).f0)) ∧ w'.cell? ⟨(ad255.add ((x14_1).toNat * 2)).block, (ad255.add ((x14_1).toNat * 2)).off + 1, none⟩ = some (.int .u64 ((rd_T59 t250 x14_1).f1)) ∧ w'.cell? (ad255.add ((x14_1).toNat * 2)) = some (.int .u64 ((rd_T59 t250 x14_1).f0)) ∧ w'.cell? ⟨(ad255.add ((x14_1).toNat * 2)).block, (ad255.add ((x14_1).toNat * 2)).off + 1, none⟩ = some (.int .u64 ((rd_T59 t250 x14_1).f1))) (ds := []) #[false, false, false, false, false, false, false, false, false, false, false, false, false, false, false, false, false, false, false, false, false, false, false, false, false, false, false, false, false, false, false, false, false, false] (by kernel_rfl) rfl rfl ⟨hx254_0, hx254_1, hx255_0, hx255_1, hx256_0, hx256_1, hx257_0, hx257_1, hx259_0, hx259_1, hx260_0, hx260_1⟩ (fun hHeld => ?_); refine with_tabW merkle_Collide.tab8 merkle_Collide.bits8 (fun HT_ HW_ => ?_)
             generalize wc.drew = w43 at HO_10 HO_12 BK242 BK243 BK244 HB hx254_0 hx254_1 hx255_0 hx255_1 hx256_0 hx256_1 hx257_0 hx257_1 hx259_0 hx259_1 hx260_0 hx260_1 hHeld ⊢
             refine pure_ (i := 0) (N := some 52) (v := ?_) (a' := ?_) (bl_40 34 1) rfl rfl (any_of HT_.out (by kernel_rfl)) (fun _ _ _ h => h) (Or.inl ⟨by rfl, ?_⟩) ?_ ?_; rotate_left; (· intro w'; go_simp; with_reducible rfl); rotate_left; (· simp only [Act.put, setIfInBounds_toArray, set_cons_zero, set_cons_succ, i64_w, i32_w]; rfl)
             refine pure_ (i := 1) (N := some 53) (v := ?_) (a' := ?_) (bl_40 34 3) rfl rfl (any_of HT_.out (by kernel_rfl)) (fun _ _ _ h => h) (Or.inl ⟨by rfl, ?_⟩) ?_ ?_; rotate_left; (· intro w'; go_simp; with_reducible rfl); rotate_left; (· simp only [Act.put, setIfInBounds_toArray, set_cons_zero, set_cons_succ, i64_w, i32_w]; rfl)
             refine pure_ (i := 2) (N := some 54) (v := ?_) (a' := ?_) (bl_40 34 7) rfl rfl (any_of HT_.out (by kernel_rfl)) (fun _ _ _ h => h) (Or.inl ⟨by rfl, ?_⟩) ?_ ?_; rotate_left; (· intro w'; go_simp; with_reducible rfl); rotate_left; (· simp only [Act.put, setIfInBounds_toArray, set_cons_zero, set_cons_succ, i64_w, i32_w]; rfl)
             refine pure_ (i := 4) (N := some 56) (v := ?_) (a' := ?_) (bl_40 34 23) rfl rfl (any_of HT_.out (by kernel_rfl)) (fun _ _ _ h => h) (Or.inl ⟨by rfl, ?_⟩) ?_ ?_; rotate_left; (· intro w'; go_simp; with_reducible rfl); rotate_left; (· simp only [Act.put, setIfInBounds_toArray, set_cons_zero, set_cons_succ, i64_w, i32_w]; rfl)
             refine pure_ (i := 5) (N := some 57) (v := ?_) (a' := ?_) (bl_40 34 55) rfl rfl (any_of HT_.out (by kernel_rfl)) (fun _ _ _ h => h) (Or.inl ⟨by rfl, ?_⟩) ?_ ?_; rotate_left; (· intro w'; go_simp; with_reducible rfl); rotate_left; (· simp only [Act.put, setIfInBounds_toArray, set_cons_zero, set_cons_succ, i64_w, i32_w]; rfl)
             refine pure_ (i := 6) (N := some 58) (v := ?_) (a' := ?_) (bl_40 34 119) rfl rfl (any_of HT_.out (by kernel_rfl)) (fun _ _ _ h => h) (Or.inl ⟨by rfl, ?_⟩) ?_ ?_; rotate_left; (· intro w'; go_simp; with_reducible rfl); rotate_left; (· simp only [Act.put, setIfInBounds_toArray, set_cons_zero, set_cons_succ, i64_w, i32_w]; rfl)
             refine take_ (i := 3) (N := some 55) (v := ?_) (a' := ?_) (bl_40 34 127) rfl rfl (take_ofW HT_.out HW_.out (by kernel_rfl)) (fun _ _ _ h => h) (Or.inl ⟨by rfl, ?_⟩) hHeld ?_ ?_; rotate_left; (· rintro w' ⟨s0, s1, s2, s3, s4, s5, s6, s7, s8, s9, s10, s11⟩; go_simp; with_reducible rfl); rotate_left; (· simp only [Act.put, setIfInBounds_toArray, set_cons_zero, set_cons_succ, i64_w, i32_w]; rfl)
             refine take_ (i := 7) (N := some 59) (v := ?_) (a' := ?_) (bl_40 34 255) rfl rfl (take_ofW HT_.out HW_.out (by kernel_rfl)) (fun _ _ _ h => h) (Or.inl ⟨by rfl, ?_⟩) hHeld ?_ ?_; rotate_left; (· rintro w' ⟨s0, s1, s2, s3, s4, s5, s6, s7, s8, s9, s10, s11⟩; go_simp; with_reducible rfl); rotate_left; (· simp only [Act.put, setIfInBounds_toArray, set_cons_zero, set_cons_succ, i64_w, i32_w]; rfl)
             refine pure_ (i := 8) (N := some 60) (v := ?_) (a' := ?_) (bl_40 34 511) rfl rfl (any_of HT_.out (by kernel_rfl)) (fun _ _ _ h => h) (Or.inl ⟨by rfl, ?_⟩) ?_ ?_; rotate_left; (· intro w'; go_simp; with_reducible rfl); rotate_left; (· simp only [Act.put, setIfInBounds_toArray, set_cons_zero, set_cons_succ, i64_w, i32_w]; rfl)
             refine pure_ (i := 9) (N := some 61) (v := ?_) (a' := ?_) (bl_40 34 1023) rfl rfl (any_of HT_.out (by kernel_rfl)) (fun _ _ _ h => h) (Or.inl ⟨by rfl, ?_⟩) ?_ ?_; rotate_left; (· intro w'; go_simp; with_reducible rfl); rotate_left; (· simp only [Act.put, setIfInBounds_toArray, set_cons_zero, set_cons_succ, i64_w, i32_w]; rfl)
             refine pure_ (i := 10) (N := some 62) (v := ?_) (a' := ?_) (bl_40 34 2047) rfl rfl (any_of HT_.out (by kernel_rfl)) (fun _ _ _ h => h) (Or.inl ⟨by rfl, ?_⟩) ?_ ?_; rotate_left; (· intro w'; go_simp; with_reducible rfl); rotate_left; (· simp only [Act.put, setIfInBounds_toArray, set_cons_zero, set_cons_succ, i64_w, i32_w]; rfl)
             refine pure_ (i := 11) (N := some 63) (v := ?_) (a' := ?_) (bl_40 34 4095) rfl rfl (any_of HT_.out (by kernel_rfl)) (fun _ _ _ h => h) (Or.inl ⟨by rfl, ?_⟩) ?_ ?_; rotate_left; (· intro w'; go_simp; with_reducible rfl); rotate_left; (· simp only [Act.put, setIfInBounds_toArray, set_cons_zero, set_cons_succ, i64_w, i32_w]; rfl)
             refine pure_ (i := 12) (N := some 64) (v := ?_) (a' := ?_) (bl_40 34 8191) rfl rfl (any_of HT_.out (by kernel_rfl)) (fun _ _ _ h => h) (Or.inl ⟨by rfl, ?_⟩) ?_ ?_; rotate_left; (· intro w'; go_simp; with_reducible rfl); rotate_left; (· simp only [Act.put, setIfInBounds_toArray, set_cons_zero, set_cons_succ, i64_w, i32_w]; rfl)
             refine pure_ (i := 13) (N := some 65) (v := ?_) (a' := ?_) (bl_40 34 16383) rfl rfl (any_of HT_.out (by kernel_rfl)) (fun _ _ _ h => h) (Or.inl ⟨by rfl, ?_⟩) ?_ ?_; rotate_left; (· intro w'; go_simp; with_reducible rfl); rotate_left; (· simp only [Act.put, setIfInBounds_toArray, set_cons_zero, set_cons_succ, i64_w, i32_w]; rfl)
             refine pure_ (i := 15) (N := some 67) (v := ?_) (a' := ?_) (bl_40 34 49151) rfl rfl (any_of HT_.out (by kernel_rfl)) (fun _ _ _ h => h) (Or.inl ⟨by rfl, ?_⟩) ?_ ?_; rotate_left; (· intro w'; go_simp; with_reducible rfl); rotate_left; (· simp only [Act.put, setIfInBounds_toArray, set_cons_zero, set_cons_succ, i64_w, i32_w]; rfl)
             refine pure_ (i := 16) (N := some 68) (v := ?_) (a' := ?_) (bl_40 34 114687) rfl rfl (any_of HT_.out (by kernel_rfl)) (fun _ _ _ h => h) (Or.inl ⟨by rfl, ?_⟩) ?_ ?_; rotate_left; (· intro w'; go_simp; with_reducible rfl); rotate_left; (· simp only [Act.put, setIfInBounds_toArray, set_cons_zero, set_cons_succ, i64_w, i32_w]; rfl)
             refine pure_ (i := 17) (N := some 69) (v := ?_) (a' := ?_) (bl_40 34 245759) rfl rfl (any_of HT_.out (by kernel_rfl)) (fun _ _ _ h => h) (Or.inl ⟨by rfl, ?_⟩) ?_ ?_; rotate_left; (· intro w'; go_simp; with_reducible rfl); rotate_left; (· simp only [Act.put, setIfInBounds_toArray, set_cons_zero, set_cons_succ, i64_w, i32_w]; rfl)
             refine pure_ (i := 18) (N := some 70) (v := ?_) (a' := ?_) (bl_40 34 507903) rfl rfl (any_of HT_.out (by kernel_rfl)) (fun _ _ _ h => h) (Or.inl ⟨by rfl, ?_⟩) ?_ ?_; rotate_left; (· intro w'; go_simp; with_reducible rfl); rotate_left; (· simp only [Act.put, setIfInBounds_toArray, set_cons_zero, set_cons_succ, i64_w, i32_w]; rfl)
             refine pure_ (i := 21) (N := some 73) (v := ?_) (a' := ?_) (bl_40 34 2605055) rfl rfl (any_of HT_.out (by kernel_rfl)) (fun _ _ _ h => h) (Or.inl ⟨by rfl, ?_⟩) ?_ ?_; rotate_left; (· intro w'; go_simp; with_reducible rfl); rotate_left; (· simp only [Act.put, setIfInBounds_toArray, set_cons_zero, set_cons_succ, i64_w, i32_w]; rfl)
             refine pure_ (i := 22) (N := some 74) (v := ?_) (a' := ?_) (bl_40 34 6799359) rfl rfl (any_of HT_.out (by kernel_rfl)) (fun _ _ _ h => h) (Or.inl ⟨by rfl, ?_⟩) ?_ ?_; rotate_left; (· intro w'; go_simp; with_reducible rfl); rotate_left; (· simp only [Act.put, setIfInBounds_toArray, set_cons_zero, set_cons_succ, i64_w, i32_w]; rfl)
             refine pure_ (i := 23) (N := some 75) (v := ?_) (a' := ?_) (bl_40 34 15187967) rfl rfl (any_of HT_.out (by kernel_rfl)) (fun _ _ _ h => h) (Or.inl ⟨by rfl, ?_⟩) ?_ ?_; rotate_left; (· intro w'; go_simp; with_reducible rfl); rotate_left; (· simp only [Act.put, setIfInBounds_toArray, set_cons_zero, set_cons_succ, i64_w, i32_w]; rfl)
             refine pure_ (i := 24) (N := some 76) (v := ?_) (a' := ?_) (bl_40 34 31965183) rfl rfl (any_of HT_.out (by kernel_rfl)) (fun _ _ _ h => h) (Or.inl ⟨by rfl, ?_⟩) ?_ ?_; rotate_left; (· intro w'; go_simp; with_reducible rfl); rotate_left; (· simp only [Act.put, setIfInBounds_toArray, set_cons_zero, set_cons_succ, i64_w, i32_w]; rfl)
             refine pure_ (i := 26) (N := some 78) (v := ?_) (a' := ?_) (bl_40 34 99074047) rfl rfl (any_of HT_.out (by kernel_rfl)) (fun _ _ _ h => h) (Or.inl ⟨by rfl, ?_⟩) ?_ ?_; rotate_left; (· intro w'; go_simp; with_reducible rfl); rotate_left; (· simp only [Act.put, setIfInBounds_toArray, set_cons_zero, set_cons_succ, i64_w, i32_w]; rfl)
             refine pure_ (i := 27) (N := some 79) (v := ?_) (a' := ?_) (bl_40 34 233291775) rfl rfl (any_of HT_.out (by kernel_rfl)) (fun _ _ _ h => h) (Or.inl ⟨by rfl, ?_⟩) ?_ ?_; rotate_left; (· intro w'; go_simp; with_reducible rfl); rotate_left; (· simp only [Act.put, setIfInBounds_toArray, set_cons_zero, set_cons_succ, i64_w, i32_w]; rfl)
             refine pure_ (i := 28) (N := some 80) (v := ?_) (a' := ?_) (bl_40 34 501727231) rfl rfl (any_of HT_.out (by kernel_rfl)) (fun _ _ _ h => h) (Or.inl ⟨by rfl, ?_⟩) ?_ ?_; rotate_left; (· intro w'; go_simp; with_reducible rfl); rotate_left; (· simp only [Act.put, setIfInBounds_toArray, set_cons_zero, set_cons_succ, i64_w, i32_w]; rfl)
             refine pure_ (i := 29) (N := some 81) (v := ?_) (a' := ?_) (bl_40 34 1038598143) rfl rfl (any_of HT_.out (by kernel_rfl)) (fun _ _ _ h => h) (Or.inl ⟨by rfl, ?_⟩) ?_ ?_; rotate_left; (· intro w'; go_simp; with_reducible rfl); rotate_left; (· simp only [Act.put, setIfInBounds_toArray, set_cons_zero, set_cons_succ, i64_w, i32_w]; rfl)
             refine take_ (i := 14) (N := some 66) (v := ?_) (a' := ?_) (bl_40 34 1038614527) rfl rfl (take_ofW HT_.out HW_.out (by kernel_rfl)) (fun _ _ _ h => h) (Or.inl ⟨by rfl, ?_⟩) hHeld ?_ ?_; rotate_left; (· rintro w' ⟨s0, s1, s2, s3, s4, s5, s6, s7, s8, s9, s10, s11⟩; go_simp; with_reducible rfl); rotate_left; (· simp only [Act.put, setIfInBounds_toArray, set_cons_zero, set_cons_succ, i64_w, i32_w]; rfl)
             refine take_ (i := 19) (N := some 71) (v := ?_) (a' := ?_) (bl_40 34 1039138815) rfl rfl (take_ofW HT_.out HW_.out (by kernel_rfl)) (fun _ _ _ h => h) (Or.inl ⟨by rfl, ?_⟩) hHeld ?_ ?_; rotate_left; (· rintro w' ⟨s0, s1, s2, s3, s4, s5, s6, s7, s8, s9, s10, s11⟩; go_simp; with_reducible rfl); rotate_left; (· simp only [Act.put, setIfInBounds_toArray, set_cons_zero, set_cons_succ, i64_w, i32_w]; rfl)
             refine take_ (i := 25) (N := some 77) (v := ?_) (a' := ?_) (bl_40 34 1072693247) rfl rfl (take_ofW HT_.out HW_.out (by kernel_rfl)) (fun _ _ _ h => h) (Or.inl ⟨by rfl, ?_⟩) hHeld ?_ ?_; rotate_left; (· rintro w' ⟨s0, s1, s2, s3, s4, s5, s6, s7, s8, s9, s10, s11⟩; go_simp; with_reducible rfl); rotate_left; (· simp only [Act.put, setIfInBounds_toArray, set_cons_zero, set_cons_succ, i64_w, i32_w]; rfl)
             refine take_ (i := 30) (N := some 82) (v := ?_) (a' := ?_) (bl_40 34 2146435071) rfl rfl (take_ofW HT_.out HW_.out (by kernel_rfl)) (fun _ _ _ h => h) (Or.inl ⟨by rfl, ?_⟩) hHeld ?_ ?_; rotate_left; (· rintro w' ⟨s0, s1, s2, s3, s4, s5, s6, s7, s8, s9, s10, s11⟩; go_simp; with_reducible rfl); rotate_left; (· simp only [Act.put, setIfInBounds_toArray, set_cons_zero, set_cons_succ, i64_w, i32_w]; rfl)
             refine one_ (i := 20) (N := some 72) (bl_40 34 2147483647) rfl rfl (one_of HT_.out (by kernel_rfl)) (by decide) (fun K hK => ?_)
             refine goes_ Try.func21 (by kernel_rfl) rfl #[.int .u64 ((rd_T59 t246 x14_1).f0), .int .u64 ((rd_T59 t246 x14_1).f1)] (by rfl) rfl rfl (by (try simp only [map_toArray, map_cons, map_nil]); first | done | rfl) ?_
             with_reducible refine (digest_Join.calls ((rd_T59 t246 x14_1).f0) ((rd_T59 t246 x14_1).f1) t258 _ A32.out).mono ?_
             rintro e w' ⟨rfl, ⟨nd, rfl⟩⟩
             refine ⟨_, rfl, ?_⟩
             refine hK.out _ _ ⟨hHeld.1, hHeld.2.1, hHeld.2.2.1, hHeld.2.2.2.1, hHeld.2.2.2.2.1, hHeld.2.2.2.2.2.1, hHeld.2.2.2.2.2.2.1, hHeld.2.2.2.2.2.2.2.1, hHeld.2.2.2.2.2.2.2.2.1, hHeld.2.2.2.2.2.2.2.2.2.1, hHeld.2.2.2.2.2.2.2.2.2.2.1, hHeld.2.2.2.2.2.2.2.2.2.2.2⟩ (fun hHeld => ?_)
             clear hK K
             refine norm_ (a' := ?_) ?_ ?_
             rotate_left
             ·
              show Act.put _ (some 72) _ = _
              simp only [Act.put, setIfInBounds_toArray, set_cons_zero, set_cons_succ, i64_w, i32_w]
              rfl
             refine one_ (i := 31) (N := some 83) (bl_40 34 4294967295) rfl rfl (one_of HT_.out (by kernel_rfl)) (by decide) (fun K hK => ?_)
             refine goes_ Try.func21 (by kernel_rfl) rfl #[.int .u64 ((rd_T59 t250 x14_1).f0), .int .u64 ((rd_T59 t250 x14_1).f1)] (by rfl) rfl rfl (by (try simp only [map_toArray, map_cons, map_nil]); first | done | rfl) ?_
             with_reducible refine (digest_Join.calls ((rd_T59 t250 x14_1).f0) ((rd_T59 t250 x14_1).f1) t261 _ A33.out).mono ?_
             rintro e w' ⟨rfl, ⟨nd, rfl⟩⟩
             refine ⟨_, rfl, ?_⟩
             refine hK.out _ _ ⟨hHeld.1, hHeld.2.1, hHeld.2.2.1, hHeld.2.2.2.1, hHeld.2.2.2.2.1, hHeld.2.2.2.2.2.1, hHeld.2.2.2.2.2.2.1, hHeld.2.2.2.2.2.2.2.1, hHeld.2.2.2.2.2.2.2.2.1, hHeld.2.2.2.2.2.2.2.2.2.1, hHeld.2.2.2.2.2.2.2.2.2.2.1, hHeld.2.2.2.2.2.2.2.2.2.2.2⟩ (fun hHeld => ?_)
             clear hK K
             refine norm_ (a' := ?_) ?_ ?_
             rotate_left
             ·
              show Act.put _ (some 83) _ = _
              simp only [Act.put, setIfInBounds_toArray, set_cons_zero, set_cons_succ, i64_w, i32_w]
              rfl
             refine pure_ (i := 32) (N := some 84) (v := ?_) (a' := ?_) (bl_40 34 8589934591) rfl rfl (any_of HT_.out (by kernel_rfl)) (fun _ _ _ h => h) (Or.inl ⟨by rfl, ?_⟩) ?_ ?_; rotate_left; (· intro w'; go_simp; with_reducible rfl); rotate_left; (· simp only [Act.put, setIfInBounds_toArray, set_cons_zero, set_cons_succ, i64_w, i32_w]; rfl)
             refine pure_ (i := 33) (N := some 85) (v := ?_) (a' := ?_) (bl_40 34 17179869183) rfl rfl (any_of HT_.out (by kernel_rfl)) (fun _ _ _ h => h) (Or.inl ⟨by rfl, ?_⟩) ?_ ?_; rotate_left; (· intro w'; go_simp; with_reducible rfl); rotate_left; (· simp only [Act.put, setIfInBounds_toArray, set_cons_zero, set_cons_succ, i64_w, i32_w]; rfl)
             refine done_ (done_of HT_.out (by kernel_rfl)) ?_
             try go_wp2
             go_roundg kj18
             case measure => have := HK1.out; have := HJ18.out; omega
             case rel => exact ⟨(wrap64 (x14_1 + 1)), (x245000_1), (x245001_1), (x245002_1), (x245003_1), (by first | rfl | (simp; done) | (simp [*]; done)), H', ⟨by have := HK1.out; have := HJ18.out; omega⟩, ⟨by (with_reducible repeat (first | apply Kd.R_alloc | apply Kd.R_drewN | apply Kd.R_drew)); exact HO_10.out⟩, ⟨by (with_reducible repeat (first | apply Kd.R_alloc | apply Kd.R_drewN | apply Kd.R_drew)); exact HO_12.out⟩, ⟨by (with_reducible repeat (first | refine blk_drewN ?_ _ | refine blk_drew ?_ | refine blk_alloc ?_ _)); exact BK242.out⟩, ⟨by (with_reducible repeat (first | refine blk_drewN ?_ _ | refine blk_drew ?_ | refine blk_alloc ?_ _)); exact BK243.out⟩, ⟨by (with_reducible repeat (first | refine blk_drewN ?_ _ | refine blk_drew ?_ | refine blk_alloc ?_ _)); exact BK244.out⟩, ⟨by repeat (first | (with_reducible first | exact HB.out | apply below_alloc | apply pw_below_drewN | apply below_drew1 | refine below_set ?_ GE242.out | refine below_set ?_ GE243.out | refine below_set ?_ GE244.out) | exact HB.out)⟩⟩
          ·
           rw [if_neg c27] at H
           have c27b0 : (((rd_T59 t246 x14_1).f0) == ((rd_T59 t250 x14_1).f0)) = false := beq_eq_false_iff_ne.mpr c27
           have c27b1 : (((rd_T59 t246 x14_1).f0) != ((rd_T59 t250 x14_1).f0)) = true := bne_iff_ne.mpr c27
           replace H := Option.bind_eq_some_iff.mp H
           obtain ⟨t266, A460, H⟩ := H
           replace H : ((digest_Join.f ((rd_T59 t250 x14_1).f0) ((rd_T59 t250 x14_1).f1)).bind fun t269 => (if t266 = t269 then (some ((rd_T59 t246 x14_1).f0, (rd_T59 t246 x14_1).f1, (rd_T59 t250 x14_1).f0, (rd_T59 t250 x14_1).f1, true)) else (merkle_Collide.l0 kj18 t246 t247 t250 t251 (wrap64 (x14_1 + 1))))) = some (r1, r2, r3, r4, r5) := H
           have A46 := Aside0.mk A460
           clear A460
           replace H := Option.bind_eq_some_iff.mp H
           obtain ⟨t269, A470, H⟩ := H
           replace H : (if t266 = t269 then (some ((rd_T59 t246 x14_1).f0, (rd_T59 t246 x14_1).f1, (rd_T59 t250 x14_1).f0, (rd_T59 t250 x14_1).f1, true)) else (merkle_Collide.l0 kj18 t246 t247 t250 t251 (wrap64 (x14_1 + 1)))) = some (r1, r2, r3, r4, r5) := H
           have A47 := Aside0.mk A470
           clear A470
           by_cases c48 : t266 = t269
           ·
            rw [if_pos c48] at H
            have c48b0 : (t266 == t269) = true := beq_iff_eq.mpr c48
            have c48b1 : (t266 != t269) = false := bne_eq_false_iff_eq.mpr c48
            clear c48
            simp only [Option.some.injEq, Prod.mk.injEq] at H
            obtain ⟨rfl, rfl, rfl, rfl, rfl⟩ := H
            try go_wp2
            have n0_ := Aside0.mk (Kd.R_drew HO_10.out)
            have n1_ := Aside0.mk (Kd.R_drew HO_12.out)
            have n2_ := Aside0.mk (blk_drew BK242.out)
            have n3_ := Aside0.mk (blk_drew BK243.out)
            have n4_ := Aside0.mk (blk_drew BK244.out)
            have n5_ := Aside0.mk (below_drew1 HB.out)
            clear HO_10
            clear HO_12
            clear BK242
            clear BK243
            clear BK244
            clear HB
            have HO_10 := n0_
            have HO_12 := n1_
            have BK242 := n2_
            have BK243 := n3_
            have BK244 := n4_
            have HB := n5_
            clear n0_ n1_ n2_ n3_ n4_ n5_
            obtain ⟨Ao50, co50, eo50⟩ := Kd.R_slice HO_10.out
            (first | subst eo50 | (injection eo50 with f1_ f2_ f3_; have f4_ := f1_.symm; have f5_ := f3_.symm; clear f1_ f2_ f3_; subst f4_; subst f5_))
            have p254 : 0 ≤ (x14_1 : Int) := of_decide_eq_true (by first | (with_reducible assumption) | assumption)
            have q254 : x14_1 < (t246.length : Int) := of_decide_eq_true (by first | (with_reducible assumption) | assumption)
            obtain ⟨ad254, e254, hx254_0, hx254_1⟩ := at_T59 (Kd.R_reads' HO_10.out).2.2 x14_1 p254 q254
            cases e254
            replace p254 := eq_true p254
            replace q254 := eq_true q254
            obtain ⟨Ao51, co51, eo51⟩ := Kd.R_slice HO_12.out
            (first | subst eo51 | (injection eo51 with f1_ f2_ f3_; have f4_ := f1_.symm; have f5_ := f3_.symm; clear f1_ f2_ f3_; subst f4_; subst f5_))
            have p255 : 0 ≤ (x14_1 : Int) := of_decide_eq_true (by first | (with_reducible assumption) | assumption)
            have q255 : x14_1 < (t250.length : Int) := of_decide_eq_true (by first | (with_reducible assumption) | assumption)
            obtain ⟨ad255, e255, hx255_0, hx255_1⟩ := at_T59 (Kd.R_reads' HO_12.out).2.2 x14_1 p255 q255
            cases e255
            replace p255 := eq_true p255
            replace q255 := eq_true q255
            have p264 : 0 ≤ (x14_1 : Int) := of_decide_eq_true (by first | (with_reducible assumption) | assumption)
            have q264 : x14_1 < (t246.length : Int) := of_decide_eq_true (by first | (with_reducible assumption) | assumption)
            obtain ⟨ad264, e264, hx264_0, hx264_1⟩ := at_T59 (Kd.R_reads' HO_10.out).2.2 x14_1 p264 q264
            obtain rfl : ad254 = ad264 := (by injection e264)
            replace p264 := eq_true p264
            replace q264 := eq_true q264
            have p265 : 0 ≤ (x14_1 : Int) := of_decide_eq_true (by first | (with_reducible assumption) | assumption)
            have q265 : x14_1 < (t246.length : Int) := of_decide_eq_true (by first | (with_reducible assumption) | assumption)
            obtain ⟨ad265, e265, hx265_0, hx265_1⟩ := at_T59 (Kd.R_reads' HO_10.out).2.2 x14_1 p265 q265
            obtain rfl : ad254 = ad265 := (by injection e265)
            replace p265 := eq_true p265
            replace q265 := eq_true q265
            have p267 : 0 ≤ (x14_1 : Int) := of_decide_eq_true (by first | (with_reducible assumption) | assumption)
            have q267 : x14_1 < (t250.length : Int) := of_decide_eq_true (by first | (with_reducible assumption) | assumption)
            obtain ⟨ad267, e267, hx267_0, hx267_1⟩ := at_T59 (Kd.R_reads' HO_12.out).2.2 x14_1 p267 q267
            obtain rfl : ad255 = ad267 := (by injection e267)
            replace p267 := eq_true p267
            replace q267 := eq_true q267
            have p268 : 0 ≤ (x14_1 : Int) := of_decide_eq_true (by first | (with_reducible assumption) | assumption)
            have q268 : x14_1 < (t250.length : Int) := of_decide_eq_true (by first | (with_reducible assumption) | assumption)
            obtain ⟨ad268, e268, hx268_0, hx268_1⟩ := at_T59 (Kd.R_reads' HO_12.out).2.2 x14_1 p268 q268
            obtain rfl : ad255 = ad268 := (by injection e268)
            replace p268 := eq_true p268
            replace q268 := eq_true q268
            refine start_ (n := 34) (S := fun w' => w'.cell? (ad254.add ((x14_1).toNat * 2)) = some (.int .u64 ((rd_T59 t246 x14_1).f0)) ∧ w'.cell? ⟨(ad254.add ((x14_1).toNat * 2)).block, (ad254.add ((x14_1).toNat * 2)).off + 1, none⟩ = some (.int .u64 ((rd_T59 t246 x14_1).f1)) ∧ w'.cell? (ad255.add ((x14_1).toNat * 2)) = some (.int .u64 ((rd_T59 t250 x14_1).f0)) ∧ w'.cell? ⟨(ad255.add ((x14_1).toNat * 2)).block, (ad255.add ((x14_1).toNat * 2)).off + 1, none⟩ = some (.int .u64 ((rd_T59 t250 x14_1).f1)) ∧ w'.cell? (ad254.add ((x14_1).toNat * 2)) = some (.int .u64 ((rd_T59 t246 x14_1).f0)) ∧ w'.cell? ⟨(ad254.add ((x14_1).toNat * 2)).block, (ad254.add ((x14_1).toNat * 2)).off + 1, none⟩ = some (.int .u64 ((rd_T59 t246 x14_1).f1)) ∧ w'.cell? (ad254.add ((x14_1).toNat * 2)) = some (.int .u64 ((rd_T59 t246 x14_1).f0)) ∧ w'.cell? ⟨(ad254.add ((x14_1).toNat * 2)).block, (ad254.add ((x14_1).toNat * 2)).off + 1, none⟩ = some (.int .u64 ((rd_T59 t246 x14_1).f1)) ∧ w'.cell? (ad255.add ((x14_1).toNat * 2)) = some (.int .u64 ((rd_T59 t250 x14_1).f0)) ∧ w'.cell? ⟨(ad255.add ((x14_1).toNat * 2)).block, (ad255.add ((x14_1).toNat * 2)).off + 1, none⟩ = some (.int .u64 ((rd_T59 t250 x14_1).f1)) ∧ w'.cell? (ad255.add ((x14_1).toNat * 2)) = some (.int .u64 ((rd_T59 t250 x14_1).f0)) ∧ w'.cell? ⟨(ad255.add ((x14_1).toNat * 2)).block, (ad255.add ((x14_1).toNat * 2)).off + 1, none⟩ = some (.int .u64 ((rd_T59 t250 x14_1).f1))) (ds := []) #[false, false, false, false, false, false, false, false, false, false, false, false, false, false, false, false, false, false, false, false, false, false, false, false, false, false, false, false, false, false, false, false, false, false] (by kernel_rfl) rfl rfl ⟨hx254_0, hx254_1, hx255_0, hx255_1, hx264_0, hx264_1, hx265_0, hx265_1, hx267_0, hx267_1, hx268_0, hx268_1⟩ (fun hHeld => ?_); refine with_tabW merkle_Collide.tab8 merkle_Collide.bits8 (fun HT_ HW_ => ?_)
            generalize wc.drew = w49 at HO_10 HO_12 BK242 BK243 BK244 HB hx254_0 hx254_1 hx255_0 hx255_1 hx264_0 hx264_1 hx265_0 hx265_1 hx267_0 hx267_1 hx268_0 hx268_1 hHeld ⊢
            refine pure_ (i := 0) (N := some 52) (v := ?_) (a' := ?_) (bl_40 34 1) rfl rfl (any_of HT_.out (by kernel_rfl)) (fun _ _ _ h => h) (Or.inl ⟨by rfl, ?_⟩) ?_ ?_; rotate_left; (· intro w'; go_simp; with_reducible rfl); rotate_left; (· simp only [Act.put, setIfInBounds_toArray, set_cons_zero, set_cons_succ, i64_w, i32_w]; rfl)
            refine pure_ (i := 1) (N := some 53) (v := ?_) (a' := ?_) (bl_40 34 3) rfl rfl (any_of HT_.out (by kernel_rfl)) (fun _ _ _ h => h) (Or.inl ⟨by rfl, ?_⟩) ?_ ?_; rotate_left; (· intro w'; go_simp; with_reducible rfl); rotate_left; (· simp only [Act.put, setIfInBounds_toArray, set_cons_zero, set_cons_succ, i64_w, i32_w]; rfl)
            refine pure_ (i := 2) (N := some 54) (v := ?_) (a' := ?_) (bl_40 34 7) rfl rfl (any_of HT_.out (by kernel_rfl)) (fun _ _ _ h => h) (Or.inl ⟨by rfl, ?_⟩) ?_ ?_; rotate_left; (· intro w'; go_simp; with_reducible rfl); rotate_left; (· simp only [Act.put, setIfInBounds_toArray, set_cons_zero, set_cons_succ, i64_w, i32_w]; rfl)
            refine pure_ (i := 4) (N := some 56) (v := ?_) (a' := ?_) (bl_40 34 23) rfl rfl (any_of HT_.out (by kernel_rfl)) (fun _ _ _ h => h) (Or.inl ⟨by rfl, ?_⟩) ?_ ?_; rotate_left; (· intro w'; go_simp; with_reducible rfl); rotate_left; (· simp only [Act.put, setIfInBounds_toArray, set_cons_zero, set_cons_succ, i64_w, i32_w]; rfl)
            refine pure_ (i := 5) (N := some 57) (v := ?_) (a' := ?_) (bl_40 34 55) rfl rfl (any_of HT_.out (by kernel_rfl)) (fun _ _ _ h => h) (Or.inl ⟨by rfl, ?_⟩) ?_ ?_; rotate_left; (· intro w'; go_simp; with_reducible rfl); rotate_left; (· simp only [Act.put, setIfInBounds_toArray, set_cons_zero, set_cons_succ, i64_w, i32_w]; rfl)
            refine pure_ (i := 6) (N := some 58) (v := ?_) (a' := ?_) (bl_40 34 119) rfl rfl (any_of HT_.out (by kernel_rfl)) (fun _ _ _ h => h) (Or.inl ⟨by rfl, ?_⟩) ?_ ?_; rotate_left; (· intro w'; go_simp; with_reducible rfl); rotate_left; (· simp only [Act.put, setIfInBounds_toArray, set_cons_zero, set_cons_succ, i64_w, i32_w]; rfl)
            refine take_ (i := 3) (N := some 55) (v := ?_) (a' := ?_) (bl_40 34 127) rfl rfl (take_ofW HT_.out HW_.out (by kernel_rfl)) (fun _ _ _ h => h) (Or.inl ⟨by rfl, ?_⟩) hHeld ?_ ?_; rotate_left; (· rintro w' ⟨s0, s1, s2, s3, s4, s5, s6, s7, s8, s9, s10, s11⟩; go_simp; with_reducible rfl); rotate_left; (· simp only [Act.put, setIfInBounds_toArray, set_cons_zero, set_cons_succ, i64_w, i32_w]; rfl)
            refine take_ (i := 7) (N := some 59) (v := ?_) (a' := ?_) (bl_40 34 255) rfl rfl (take_ofW HT_.out HW_.out (by kernel_rfl)) (fun _ _ _ h => h) (Or.inl ⟨by rfl, ?_⟩) hHeld ?_ ?_; rotate_left; (· rintro w' ⟨s0, s1, s2, s3, s4, s5, s6, s7, s8, s9, s10, s11⟩; go_simp; with_reducible rfl); rotate_left; (· simp only [Act.put, setIfInBounds_toArray, set_cons_zero, set_cons_succ, i64_w, i32_w]; rfl)
            refine pure_ (i := 8) (N := some 60) (v := ?_) (a' := ?_) (bl_40 34 511) rfl rfl (any_of HT_.out (by kernel_rfl)) (fun _ _ _ h => h) (Or.inl ⟨by rfl, ?_⟩) ?_ ?_; rotate_left; (· intro w'; go_simp; with_reducible rfl); rotate_left; (· simp only [Act.put, setIfInBounds_toArray, set_cons_zero, set_cons_succ, i64_w, i32_w]; rfl)
            refine pure_ (i := 9) (N := some 61) (v := ?_) (a' := ?_) (bl_40 34 1023) rfl rfl (any_of HT_.out (by kernel_rfl)) (fun _ _ _ h => h) (Or.inl ⟨by rfl, ?_⟩) ?_ ?_; rotate_left; (· intro w'; go_simp; with_reducible rfl); rotate_left; (· simp only [Act.put, setIfInBounds_toArray, set_cons_zero, set_cons_succ, i64_w, i32_w]; rfl)
            refine pure_ (i := 10) (N := some 62) (v := ?_) (a' := ?_) (bl_40 34 2047) rfl rfl (any_of HT_.out (by kernel_rfl)) (fun _ _ _ h => h) (Or.inl ⟨by rfl, ?_⟩) ?_ ?_; rotate_left; (· intro w'; go_simp; with_reducible rfl); rotate_left; (· simp only [Act.put, setIfInBounds_toArray, set_cons_zero, set_cons_succ, i64_w, i32_w]; rfl)
            refine pure_ (i := 11) (N := some 63) (v := ?_) (a' := ?_) (bl_40 34 4095) rfl rfl (any_of HT_.out (by kernel_rfl)) (fun _ _ _ h => h) (Or.inl ⟨by rfl, ?_⟩) ?_ ?_; rotate_left; (· intro w'; go_simp; with_reducible rfl); rotate_left; (· simp only [Act.put, setIfInBounds_toArray, set_cons_zero, set_cons_succ, i64_w, i32_w]; rfl)
            refine pure_ (i := 12) (N := some 64) (v := ?_) (a' := ?_) (bl_40 34 8191) rfl rfl (any_of HT_.out (by kernel_rfl)) (fun _ _ _ h => h) (Or.inl ⟨by rfl, ?_⟩) ?_ ?_; rotate_left; (· intro w'; go_simp; with_reducible rfl); rotate_left; (· simp only [Act.put, setIfInBounds_toArray, set_cons_zero, set_cons_succ, i64_w, i32_w]; rfl)
            refine pure_ (i := 13) (N := some 65) (v := ?_) (a' := ?_) (bl_40 34 16383) rfl rfl (any_of HT_.out (by kernel_rfl)) (fun _ _ _ h => h) (Or.inl ⟨by rfl, ?_⟩) ?_ ?_; rotate_left; (· intro w'; go_simp; with_reducible rfl); rotate_left; (· simp only [Act.put, setIfInBounds_toArray, set_cons_zero, set_cons_succ, i64_w, i32_w]; rfl)
            refine pure_ (i := 15) (N := some 67) (v := ?_) (a' := ?_) (bl_40 34 49151) rfl rfl (any_of HT_.out (by kernel_rfl)) (fun _ _ _ h => h) (Or.inl ⟨by rfl, ?_⟩) ?_ ?_; rotate_left; (· intro w'; go_simp; with_reducible rfl); rotate_left; (· simp only [Act.put, setIfInBounds_toArray, set_cons_zero, set_cons_succ, i64_w, i32_w]; rfl)
            refine pure_ (i := 16) (N := some 68) (v := ?_) (a' := ?_) (bl_40 34 114687) rfl rfl (any_of HT_.out (by kernel_rfl)) (fun _ _ _ h => h) (Or.inl ⟨by rfl, ?_⟩) ?_ ?_; rotate_left; (· intro w'; go_simp; with_reducible rfl); rotate_left; (· simp only [Act.put, setIfInBounds_toArray, set_cons_zero, set_cons_succ, i64_w, i32_w]; rfl)
            refine pure_ (i := 17) (N := some 69) (v := ?_) (a' := ?_) (bl_40 34 245759) rfl rfl (any_of HT_.out (by kernel_rfl)) (fun _ _ _ h => h) (Or.inl ⟨by rfl, ?_⟩) ?_ ?_; rotate_left; (· intro w'; go_simp; with_reducible rfl); rotate_left; (· simp only [Act.put, setIfInBounds_toArray, set_cons_zero, set_cons_succ, i64_w, i32_w]; rfl)
            refine pure_ (i := 18) (N := some 70) (v := ?_) (a' := ?_) (bl_40 34 507903) rfl rfl (any_of HT_.out (by kernel_rfl)) (fun _ _ _ h => h) (Or.inl ⟨by rfl, ?_⟩) ?_ ?_; rotate_left; (· intro w'; go_simp; with_reducible rfl); rotate_left; (· simp only [Act.put, setIfInBounds_toArray, set_cons_zero, set_cons_succ, i64_w, i32_w]; rfl)
            refine pure_ (i := 21) (N := some 73) (v := ?_) (a' := ?_) (bl_40 34 2605055) rfl rfl (any_of HT_.out (by kernel_rfl)) (fun _ _ _ h => h) (Or.inl ⟨by rfl, ?_⟩) ?_ ?_; rotate_left; (· intro w'; go_simp; with_reducible rfl); rotate_left; (· simp only [Act.put, setIfInBounds_toArray, set_cons_zero, set_cons_succ, i64_w, i32_w]; rfl)
            refine pure_ (i := 22) (N := some 74) (v := ?_) (a' := ?_) (bl_40 34 6799359) rfl rfl (any_of HT_.out (by kernel_rfl)) (fun _ _ _ h => h) (Or.inl ⟨by rfl, ?_⟩) ?_ ?_; rotate_left; (· intro w'; go_simp; with_reducible rfl); rotate_left; (· simp only [Act.put, setIfInBounds_toArray, set_cons_zero, set_cons_succ, i64_w, i32_w]; rfl)
            refine pure_ (i := 23) (N := some 75) (v := ?_) (a' := ?_) (bl_40 34 15187967) rfl rfl (any_of HT_.out (by kernel_rfl)) (fun _ _ _ h => h) (Or.inl ⟨by rfl, ?_⟩) ?_ ?_; rotate_left; (· intro w'; go_simp; with_reducible rfl); rotate_left; (· simp only [Act.put, setIfInBounds_toArray, set_cons_zero, set_cons_succ, i64_w, i32_w]; rfl)
            refine pure_ (i := 24) (N := some 76) (v := ?_) (a' := ?_) (bl_40 34 31965183) rfl rfl (any_of HT_.out (by kernel_rfl)) (fun _ _ _ h => h) (Or.inl ⟨by rfl, ?_⟩) ?_ ?_; rotate_left; (· intro w'; go_simp; with_reducible rfl); rotate_left; (· simp only [Act.put, setIfInBounds_toArray, set_cons_zero, set_cons_succ, i64_w, i32_w]; rfl)
            refine pure_ (i := 26) (N := some 78) (v := ?_) (a' := ?_) (bl_40 34 99074047) rfl rfl (any_of HT_.out (by kernel_rfl)) (fun _ _ _ h => h) (Or.inl ⟨by rfl, ?_⟩) ?_ ?_; rotate_left; (· intro w'; go_simp; with_reducible rfl); rotate_left; (· simp only [Act.put, setIfInBounds_toArray, set_cons_zero, set_cons_succ, i64_w, i32_w]; rfl)
            refine pure_ (i := 27) (N := some 79) (v := ?_) (a' := ?_) (bl_40 34 233291775) rfl rfl (any_of HT_.out (by kernel_rfl)) (fun _ _ _ h => h) (Or.inl ⟨by rfl, ?_⟩) ?_ ?_; rotate_left; (· intro w'; go_simp; with_reducible rfl); rotate_left; (· simp only [Act.put, setIfInBounds_toArray, set_cons_zero, set_cons_succ, i64_w, i32_w]; rfl)
            refine pure_ (i := 28) (N := some 80) (v := ?_) (a' := ?_) (bl_40 34 501727231) rfl rfl (any_of HT_.out (by kernel_rfl)) (fun _ _ _ h => h) (Or.inl ⟨by rfl, ?_⟩) ?_ ?_; rotate_left; (· intro w'; go_simp; with_reducible rfl); rotate_left; (· simp only [Act.put, setIfInBounds_toArray, set_cons_zero, set_cons_succ, i64_w, i32_w]; rfl)
            refine pure_ (i := 29) (N := some 81) (v := ?_) (a' := ?_) (bl_40 34 1038598143) rfl rfl (any_of HT_.out (by kernel_rfl)) (fun _ _ _ h => h) (Or.inl ⟨by rfl, ?_⟩) ?_ ?_; rotate_left; (· intro w'; go_simp; with_reducible rfl); rotate_left; (· simp only [Act.put, setIfInBounds_toArray, set_cons_zero, set_cons_succ, i64_w, i32_w]; rfl)
            refine take_ (i := 14) (N := some 66) (v := ?_) (a' := ?_) (bl_40 34 1038614527) rfl rfl (take_ofW HT_.out HW_.out (by kernel_rfl)) (fun _ _ _ h => h) (Or.inl ⟨by rfl, ?_⟩) hHeld ?_ ?_; rotate_left; (· rintro w' ⟨s0, s1, s2, s3, s4, s5, s6, s7, s8, s9, s10, s11⟩; go_simp; with_reducible rfl); rotate_left; (· simp only [Act.put, setIfInBounds_toArray, set_cons_zero, set_cons_succ, i64_w, i32_w]; rfl)
            refine take_ (i := 19) (N := some 71) (v := ?_) (a' := ?_) (bl_40 34 1039138815) rfl rfl (take_ofW HT_.out HW_.out (by kernel_rfl)) (fun _ _ _ h => h) (Or.inl ⟨by rfl, ?_⟩) hHeld ?_ ?_; rotate_left; (· rintro w' ⟨s0, s1, s2, s3, s4, s5, s6, s7, s8, s9, s10, s11⟩; go_simp; with_reducible rfl); rotate_left; (· simp only [Act.put, setIfInBounds_toArray, set_cons_zero, set_cons_succ, i64_w, i32_w]; rfl)
            refine take_ (i := 25) (N := some 77) (v := ?_) (a' := ?_) (bl_40 34 1072693247) rfl rfl (take_ofW HT_.out HW_.out (by kernel_rfl)) (fun _ _ _ h => h) (Or.inl ⟨by rfl, ?_⟩) hHeld ?_ ?_; rotate_left; (· rintro w' ⟨s0, s1, s2, s3, s4, s5, s6, s7, s8, s9, s10, s11⟩; go_simp; with_reducible rfl); rotate_left; (· simp only [Act.put, setIfInBounds_toArray, set_cons_zero, set_cons_succ, i64_w, i32_w]; rfl)
            refine take_ (i := 30) (N := some 82) (v := ?_) (a' := ?_) (bl_40 34 2146435071) rfl rfl (take_ofW HT_.out HW_.out (by kernel_rfl)) (fun _ _ _ h => h) (Or.inl ⟨by rfl, ?_⟩) hHeld ?_ ?_; rotate_left; (· rintro w' ⟨s0, s1, s2, s3, s4, s5, s6, s7, s8, s9, s10, s11⟩; go_simp; with_reducible rfl); rotate_left; (· simp only [Act.put, setIfInBounds_toArray, set_cons_zero, set_cons_succ, i64_w, i32_w]; rfl)
            refine one_ (i := 20) (N := some 72) (bl_40 34 2147483647) rfl rfl (one_of HT_.out (by kernel_rfl)) (by decide) (fun K hK => ?_)
            refine goes_ Try.func21 (by kernel_rfl) rfl #[.int .u64 ((rd_T59 t246 x14_1).f0), .int .u64 ((rd_T59 t246 x14_1).f1)] (by rfl) rfl rfl (by (try simp only [map_toArray, map_cons, map_nil]); first | done | rfl) ?_
            with_reducible refine (digest_Join.calls ((rd_T59 t246 x14_1).f0) ((rd_T59 t246 x14_1).f1) t266 _ A46.out).mono ?_
            rintro e w' ⟨rfl, ⟨nd, rfl⟩⟩
            refine ⟨_, rfl, ?_⟩
            refine hK.out _ _ ⟨hHeld.1, hHeld.2.1, hHeld.2.2.1, hHeld.2.2.2.1, hHeld.2.2.2.2.1, hHeld.2.2.2.2.2.1, hHeld.2.2.2.2.2.2.1, hHeld.2.2.2.2.2.2.2.1, hHeld.2.2.2.2.2.2.2.2.1, hHeld.2.2.2.2.2.2.2.2.2.1, hHeld.2.2.2.2.2.2.2.2.2.2.1, hHeld.2.2.2.2.2.2.2.2.2.2.2⟩ (fun hHeld => ?_)
            clear hK K
            refine norm_ (a' := ?_) ?_ ?_
            rotate_left
            ·
             show Act.put _ (some 72) _ = _
             simp only [Act.put, setIfInBounds_toArray, set_cons_zero, set_cons_succ, i64_w, i32_w]
             rfl
            refine one_ (i := 31) (N := some 83) (bl_40 34 4294967295) rfl rfl (one_of HT_.out (by kernel_rfl)) (by decide) (fun K hK => ?_)
            refine goes_ Try.func21 (by kernel_rfl) rfl #[.int .u64 ((rd_T59 t250 x14_1).f0), .int .u64 ((rd_T59 t250 x14_1).f1)] (by rfl) rfl rfl (by (try simp only [map_toArray, map_cons, map_nil]); first | done | rfl) ?_
            with_reducible refine (digest_Join.calls ((rd_T59 t250 x14_1).f0) ((rd_T59 t250 x14_1).f1) t269 _ A47.out).mono ?_
            rintro e w' ⟨rfl, ⟨nd, rfl⟩⟩
            refine ⟨_, rfl, ?_⟩
            refine hK.out _ _ ⟨hHeld.1, hHeld.2.1, hHeld.2.2.1, hHeld.2.2.2.1, hHeld.2.2.2.2.1, hHeld.2.2.2.2.2.1, hHeld.2.2.2.2.2.2.1, hHeld.2.2.2.2.2.2.2.1, hHeld.2.2.2.2.2.2.2.2.1, hHeld.2.2.2.2.2.2.2.2.2.1, hHeld.2.2.2.2.2.2.2.2.2.2.1, hHeld.2.2.2.2.2.2.2.2.2.2.2⟩ (fun hHeld => ?_)
            clear hK K
            refine norm_ (a' := ?_) ?_ ?_
            rotate_left
            ·
             show Act.put _ (some 83) _ = _
             simp only [Act.put, setIfInBounds_toArray, set_cons_zero, set_cons_succ, i64_w, i32_w]
             rfl
            refine pure_ (i := 32) (N := some 84) (v := ?_) (a' := ?_) (bl_40 34 8589934591) rfl rfl (any_of HT_.out (by kernel_rfl)) (fun _ _ _ h => h) (Or.inl ⟨by rfl, ?_⟩) ?_ ?_; rotate_left; (· intro w'; go_simp; with_reducible rfl); rotate_left; (· simp only [Act.put, setIfInBounds_toArray, set_cons_zero, set_cons_succ, i64_w, i32_w]; rfl)
            refine pure_ (i := 33) (N := some 85) (v := ?_) (a' := ?_) (bl_40 34 17179869183) rfl rfl (any_of HT_.out (by kernel_rfl)) (fun _ _ _ h => h) (Or.inl ⟨by rfl, ?_⟩) ?_ ?_; rotate_left; (· intro w'; go_simp; with_reducible rfl); rotate_left; (· simp only [Act.put, setIfInBounds_toArray, set_cons_zero, set_cons_succ, i64_w, i32_w]; rfl)
            refine done_ (done_of HT_.out (by kernel_rfl)) ?_
            try go_wp2
            (try (rw [drewN_self w49]; generalize hq_ : World.drewN w49 _ = w49; have n0_ : Aside0 (Kd.R k59 59 w49 w.heap.size (fun k_ => some k_ ≠ (.slice (some ad255) t250.length co51 : Value).ownBlock) (.slice (some ad254) t246.length co50) t246) := ⟨by rw [← hq_]; exact (by (with_reducible repeat (first | apply Kd.R_alloc | apply Kd.R_drewN | apply Kd.R_drew)); exact HO_10.out)⟩; have n1_ : Aside0 (Kd.R k59 59 w49 w.heap.size (fun k_ => some k_ ≠ (.slice (some ad254) t246.length co50 : Value).ownBlock) (.slice (some ad255) t250.length co51) t250) := ⟨by rw [← hq_]; exact (by (with_reducible repeat (first | apply Kd.R_alloc | apply Kd.R_drewN | apply Kd.R_drew)); exact HO_12.out)⟩; have n2_ : Aside0 (w49.heap[gb242]? = some (.cells #[.int .u64 a2_0, .slice A2_1 l2_1.length c2_1] 50 (0, 0))) := ⟨by rw [← hq_]; exact (by (with_reducible repeat (first | refine blk_drewN ?_ _ | refine blk_drew ?_ | refine blk_alloc ?_ _)); exact BK242.out)⟩; have n3_ : Aside0 (w49.heap[gb243]? = some (.cells #[.int .u64 a3_0, .slice A3_1 l3_1.length c3_1] 50 (0, 0))) := ⟨by rw [← hq_]; exact (by (with_reducible repeat (first | refine blk_drewN ?_ _ | refine blk_drew ?_ | refine blk_alloc ?_ _)); exact BK243.out)⟩; have n4_ : Aside0 (w49.heap[gb244]? = some (.cells #[.int .u64 x245000_1, .int .u64 x245001_1, .int .u64 x245002_1, .int .u64 x245003_1] 60 (0, 0))) := ⟨by rw [← hq_]; exact (by (with_reducible repeat (first | refine blk_drewN ?_ _ | refine blk_drew ?_ | refine blk_alloc ?_ _)); exact BK244.out)⟩; have n5_ : Aside0 (Below w.heap.size w w49) := ⟨by rw [← hq_]; exact (by repeat (first | (with_reducible first | exact HB.out | apply below_alloc | apply pw_below_drewN | apply below_drew1 | refine below_set ?_ GE242.out | refine below_set ?_ GE243.out | refine below_set ?_ GE244.out) | exact HB.out))⟩; clear HO_10 HO_12 BK242 BK243 BK244 HB hq_; have HO_10 := n0_; have HO_12 := n1_; have BK242 := n2_; have BK243 := n3_; have BK244 := n4_; have HB := n5_; clear n0_ n1_ n2_ n3_ n4_ n5_))
            have n0_ := Aside0.mk (Kd.R_drew HO_10.out)
            have n1_ := Aside0.mk (Kd.R_drew HO_12.out)
            have n2_ := Aside0.mk (blk_drew BK242.out)
            have n3_ := Aside0.mk (blk_drew BK243.out)
            have n4_ := Aside0.mk (blk_drew BK244.out)
            have n5_ := Aside0.mk (below_drew1 HB.out)
            clear HO_10
            clear HO_12
            clear BK242
            clear BK243
            clear BK244
            clear HB
            have HO_10 := n0_
            have HO_12 := n1_
            have BK242 := n2_
            have BK243 := n3_
            have BK244 := n4_
            have HB := n5_
            clear n0_ n1_ n2_ n3_ n4_ n5_
            have p270 : 0 ≤ (x14_1 : Int) := of_decide_eq_true (by first | (with_reducible assumption) | assumption)
            have q270 : x14_1 < (t246.length : Int) := of_decide_eq_true (by first | (with_reducible assumption) | assumption)
            obtain ⟨ad270, e270, hx270_0, hx270_1⟩ := at_T59 (Kd.R_reads' HO_10.out).2.2 x14_1 p270 q270
            obtain rfl : ad254 = ad270 := (by injection e270)
            replace p270 := eq_true p270
            replace q270 := eq_true q270
            have p271 : 0 ≤ (x14_1 : Int) := of_decide_eq_true (by first | (with_reducible assumption) | assumption)
            have q271 : x14_1 < (t250.length : Int) := of_decide_eq_true (by first | (with_reducible assumption) | assumption)
            obtain ⟨ad271, e271, hx271_0, hx271_1⟩ := at_T59 (Kd.R_reads' HO_12.out).2.2 x14_1 p271 q271
            obtain rfl : ad255 = ad271 := (by injection e271)
            replace p271 := eq_true p271
            replace q271 := eq_true q271
            refine start_ (n := 11) (S := fun w' => w'.cell? (ad254.add ((x14_1).toNat * 2)) = some (.int .u64 ((rd_T59 t246 x14_1).f0)) ∧ w'.cell? ⟨(ad254.add ((x14_1).toNat * 2)).block, (ad254.add ((x14_1).toNat * 2)).off + 1, none⟩ = some (.int .u64 ((rd_T59 t246 x14_1).f1)) ∧ w'.cell? (ad255.add ((x14_1).toNat * 2)) = some (.int .u64 ((rd_T59 t250 x14_1).f0)) ∧ w'.cell? ⟨(ad255.add ((x14_1).toNat * 2)).block, (ad255.add ((x14_1).toNat * 2)).off + 1, none⟩ = some (.int .u64 ((rd_T59 t250 x14_1).f1))) (ds := []) #[false, false, false, false, false, false, false, false, false, false, false] (by kernel_rfl) rfl rfl ⟨hx270_0, hx270_1, hx271_0, hx271_1⟩ (fun hHeld => ?_); refine with_tabW merkle_Collide.tab9 merkle_Collide.bits9 (fun HT_ HW_ => ?_)
            generalize w49.drew = w52 at HO_10 HO_12 BK242 BK243 BK244 HB hx270_0 hx270_1 hx271_0 hx271_1 hHeld ⊢
            refine pure_ (i := 0) (N := some 86) (v := ?_) (a' := ?_) (bl_40 11 1) rfl rfl (any_of HT_.out (by kernel_rfl)) (fun _ _ _ h => h) (Or.inl ⟨by rfl, ?_⟩) ?_ ?_; rotate_left; (· intro w'; go_simp; with_reducible rfl); rotate_left; (· simp only [Act.put, setIfInBounds_toArray, set_cons_zero, set_cons_succ, i64_w, i32_w]; rfl)
            refine pure_ (i := 1) (N := some 87) (v := ?_) (a' := ?_) (bl_40 11 3) rfl rfl (any_of HT_.out (by kernel_rfl)) (fun _ _ _ h => h) (Or.inl ⟨by rfl, ?_⟩) ?_ ?_; rotate_left; (· intro w'; go_simp; with_reducible rfl); rotate_left; (· simp only [Act.put, setIfInBounds_toArray, set_cons_zero, set_cons_succ, i64_w, i32_w]; rfl)
            refine pure_ (i := 2) (N := some 88) (v := ?_) (a' := ?_) (bl_40 11 7) rfl rfl (any_of HT_.out (by kernel_rfl)) (fun _ _ _ h => h) (Or.inl ⟨by rfl, ?_⟩) ?_ ?_; rotate_left; (· intro w'; go_simp; with_reducible rfl); rotate_left; (· simp only [Act.put, setIfInBounds_toArray, set_cons_zero, set_cons_succ, i64_w, i32_w]; rfl)
            refine pure_ (i := 4) (N := some 90) (v := ?_) (a' := ?_) (bl_40 11 23) rfl rfl (any_of HT_.out (by kernel_rfl)) (fun _ _ _ h => h) (Or.inl ⟨by rfl, ?_⟩) ?_ ?_; rotate_left; (· intro w'; go_simp; with_reducible rfl); rotate_left; (· simp only [Act.put, setIfInBounds_toArray, set_cons_zero, set_cons_succ, i64_w, i32_w]; rfl)
            refine pure_ (i := 5) (N := some 91) (v := ?_) (a' := ?_) (bl_40 11 55) rfl rfl (any_of HT_.out (by kernel_rfl)) (fun _ _ _ h => h) (Or.inl ⟨by rfl, ?_⟩) ?_ ?_; rotate_left; (· intro w'; go_simp; with_reducible rfl); rotate_left; (· simp only [Act.put, setIfInBounds_toArray, set_cons_zero, set_cons_succ, i64_w, i32_w]; rfl)
            refine pure_ (i := 6) (N := some 92) (v := ?_) (a' := ?_) (bl_40 11 119) rfl rfl (any_of HT_.out (by kernel_rfl)) (fun _ _ _ h => h) (Or.inl ⟨by rfl, ?_⟩) ?_ ?_; rotate_left; (· intro w'; go_simp; with_reducible rfl); rotate_left; (· simp only [Act.put, setIfInBounds_toArray, set_cons_zero, set_cons_succ, i64_w, i32_w]; rfl)
            refine take_ (i := 3) (N := some 89) (v := ?_) (a' := ?_) (bl_40 11 127) rfl rfl (take_ofW HT_.out HW_.out (by kernel_rfl)) (fun _ _ _ h => h) (Or.inl ⟨by rfl, ?_⟩) hHeld ?_ ?_; rotate_left; (· rintro w' ⟨s0, s1, s2, s3⟩; go_simp; with_reducible rfl); rotate_left; (· simp only [Act.put, setIfInBounds_toArray, set_cons_zero, set_cons_succ, i64_w, i32_w]; rfl)
            refine take_ (i := 7) (N := some 93) (v := ?_) (a' := ?_) (bl_40 11 255) rfl rfl (take_ofW HT_.out HW_.out (by kernel_rfl)) (fun _ _ _ h => h) (Or.inl ⟨by rfl, ?_⟩) hHeld ?_ ?_; rotate_left; (· rintro w' ⟨s0, s1, s2, s3⟩; go_simp; with_reducible rfl); rotate_left; (· simp only [Act.put, setIfInBounds_toArray, set_cons_zero, set_cons_succ, i64_w, i32_w]; rfl)
            refine pure_ (i := 8) (N := some 94) (v := ?_) (a' := ?_) (bl_40 11 511) rfl rfl (any_of HT_.out (by kernel_rfl)) (fun _ _ _ h => h) (Or.inl ⟨by rfl, ?_⟩) ?_ ?_; rotate_left; (· intro w'; go_simp; with_reducible rfl); rotate_left; (· simp only [Act.put, setIfInBounds_toArray, set_cons_zero, set_cons_succ, i64_w, i32_w]; rfl)
            refine one_ (i := 9) (N := none) (bl_40 11 1023) rfl rfl (one_of HT_.out (by kernel_rfl)) (by decide) (fun K hK => ?_)
            have hs53 : w52.cell? ⟨gb244, 0, none⟩ = some (.int .u64 x245000_1) := (blk_cell BK244.out 0).trans rfl
            have hfs53 := blk_frozen BK244.out 0
            have hns53_0 := NB242_244.out
            have hns53_1 := NB243_244.out
            have hms53_0 := NB244_242.out
            have hms53_1 := NB244_243.out
            have hs54 : w52.cell? ⟨gb244, 1, none⟩ = some (.int .u64 x245001_1) := (blk_cell BK244.out 1).trans rfl
            have hfs54 := blk_frozen BK244.out 1
            have hns54_0 := NB242_244.out
            have hns54_1 := NB243_244.out
            have hms54_0 := NB244_242.out
            have hms54_1 := NB244_243.out
            have hs55 : w52.cell? ⟨gb244, 2, none⟩ = some (.int .u64 x245002_1) := (blk_cell BK244.out 2).trans rfl
            have hfs55 := blk_frozen BK244.out 2
            have hns55_0 := NB242_244.out
            have hns55_1 := NB243_244.out
            have hms55_0 := NB244_242.out
            have hms55_1 := NB244_243.out
            have hs56 : w52.cell? ⟨gb244, 3, none⟩ = some (.int .u64 x245003_1) := (blk_cell BK244.out 3).trans rfl
            have hfs56 := blk_frozen BK244.out 3
            have hns56_0 := NB242_244.out
            have hns56_1 := NB243_244.out
            have hms56_0 := NB244_242.out
            have hms56_1 := NB244_243.out
            refine skip_ (w1 := ?_) (by rfl) rfl ?_ ?_
            rotate_left
            ·
             go_simp
             rfl
            refine hK.out _ _ ⟨((cell_far (p := ⟨gb244, _, none⟩) (by first | exact Kd.own_blk (Kd.R_ne HO_10.out BK244.out (by decide)) | (rw [add_block]; exact Kd.own_blk (Kd.R_ne HO_10.out BK244.out (by decide))) | (show (Addr.add _ _).block ≠ _; rw [add_block]; exact Kd.own_blk (Kd.R_ne HO_10.out BK244.out (by decide))) | (dsimp only; exact Kd.own_blk (Kd.R_ne HO_10.out BK244.out (by decide)))) _).trans (((cell_far (p := ⟨gb244, _, none⟩) (by first | exact Kd.own_blk (Kd.R_ne HO_10.out BK244.out (by decide)) | (rw [add_block]; exact Kd.own_blk (Kd.R_ne HO_10.out BK244.out (by decide))) | (show (Addr.add _ _).block ≠ _; rw [add_block]; exact Kd.own_blk (Kd.R_ne HO_10.out BK244.out (by decide))) | (dsimp only; exact Kd.own_blk (Kd.R_ne HO_10.out BK244.out (by decide)))) _).trans (((cell_far (p := ⟨gb244, _, none⟩) (by first | exact Kd.own_blk (Kd.R_ne HO_10.out BK244.out (by decide)) | (rw [add_block]; exact Kd.own_blk (Kd.R_ne HO_10.out BK244.out (by decide))) | (show (Addr.add _ _).block ≠ _; rw [add_block]; exact Kd.own_blk (Kd.R_ne HO_10.out BK244.out (by decide))) | (dsimp only; exact Kd.own_blk (Kd.R_ne HO_10.out BK244.out (by decide)))) _).trans (((cell_far (p := ⟨gb244, _, none⟩) (by first | exact Kd.own_blk (Kd.R_ne HO_10.out BK244.out (by decide)) | (rw [add_block]; exact Kd.own_blk (Kd.R_ne HO_10.out BK244.out (by decide))) | (show (Addr.add _ _).block ≠ _; rw [add_block]; exact Kd.own_blk (Kd.R_ne HO_10.out BK244.out (by decide))) | (dsimp only; exact Kd.own_blk (Kd.R_ne HO_10.out BK244.out (by decide)))) _).trans (hHeld.1)))))))), ((cell_far (p := ⟨gb244, _, none⟩) (by first | exact Kd.own_blk (Kd.R_ne HO_10.out BK244.out (by decide)) | (rw [add_block]; exact Kd.own_blk (Kd.R_ne HO_10.out BK244.out (by decide))) | (show (Addr.add _ _).block ≠ _; rw [add_block]; exact Kd.own_blk (Kd.R_ne HO_10.out BK244.out (by decide))) | (dsimp only; exact Kd.own_blk (Kd.R_ne HO_10.out BK244.out (by decide)))) _).trans (((cell_far (p := ⟨gb244, _, none⟩) (by first | exact Kd.own_blk (Kd.R_ne HO_10.out BK244.out (by decide)) | (rw [add_block]; exact Kd.own_blk (Kd.R_ne HO_10.out BK244.out (by decide))) | (show (Addr.add _ _).block ≠ _; rw [add_block]; exact Kd.own_blk (Kd.R_ne HO_10.out BK244.out (by decide))) | (dsimp only; exact Kd.own_blk (Kd.R_ne HO_10.out BK244.out (by decide)))) _).trans (((cell_far (p := ⟨gb244, _, none⟩) (by first | exact Kd.own_blk (Kd.R_ne HO_10.out BK244.out (by decide)) | (rw [add_block]; exact Kd.own_blk (Kd.R_ne HO_10.out BK244.out (by decide))) | (show (Addr.add _ _).block ≠ _; rw [add_block]; exact Kd.own_blk (Kd.R_ne HO_10.out BK244.out (by decide))) | (dsimp only; exact Kd.own_blk (Kd.R_ne HO_10.out BK244.out (by decide)))) _).trans (((cell_far (p := ⟨gb244, _, none⟩) (by first | exact Kd.own_blk (Kd.R_ne HO_10.out BK244.out (by decide)) | (rw [add_block]; exact Kd.own_blk (Kd.R_ne HO_10.out BK244.out (by decide))) | (show (Addr.add _ _).block ≠ _; rw [add_block]; exact Kd.own_blk (Kd.R_ne HO_10.out BK244.out (by decide))) | (dsimp only; exact Kd.own_blk (Kd.R_ne HO_10.out BK244.out (by decide)))) _).trans (hHeld.2.1)))))))), ((cell_far (p := ⟨gb244, _, none⟩) (by first | exact Kd.own_blk (Kd.R_ne HO_12.out BK244.out (by decide)) | (rw [add_block]; exact Kd.own_blk (Kd.R_ne HO_12.out BK244.out (by decide))) | (show (Addr.add _ _).block ≠ _; rw [add_block]; exact Kd.own_blk (Kd.R_ne HO_12.out BK244.out (by decide))) | (dsimp only; exact Kd.own_blk (Kd.R_ne HO_12.out BK244.out (by decide)))) _).trans (((cell_far (p := ⟨gb244, _, none⟩) (by first | exact Kd.own_blk (Kd.R_ne HO_12.out BK244.out (by decide)) | (rw [add_block]; exact Kd.own_blk (Kd.R_ne HO_12.out BK244.out (by decide))) | (show (Addr.add _ _).block ≠ _; rw [add_block]; exact Kd.own_blk (Kd.R_ne HO_12.out BK244.out (by decide))) | (dsimp only; exact Kd.own_blk (Kd.R_ne HO_12.out BK244.out (by decide)))) _).trans (((cell_far (p := ⟨gb244, _, none⟩) (by first | exact Kd.own_blk (Kd.R_ne HO_12.out BK244.out (by decide)) | (rw [add_block]; exact Kd.own_blk (Kd.R_ne HO_12.out BK244.out (by decide))) | (show (Addr.add _ _).block ≠ _; rw [add_block]; exact Kd.own_blk (Kd.R_ne HO_12.out BK244.out (by decide))) | (dsimp only; exact Kd.own_blk (Kd.R_ne HO_12.out BK244.out (by decide)))) _).trans (((cell_far (p := ⟨gb244, _, none⟩) (by first | exact Kd.own_blk (Kd.R_ne HO_12.out BK244.out (by decide)) | (rw [add_block]; exact Kd.own_blk (Kd.R_ne HO_12.out BK244.out (by decide))) | (show (Addr.add _ _).block ≠ _; rw [add_block]; exact Kd.own_blk (Kd.R_ne HO_12.out BK244.out (by decide))) | (dsimp only; exact Kd.own_blk (Kd.R_ne HO_12.out BK244.out (by decide)))) _).trans (hHeld.2.2.1)))))))), ((cell_far (p := ⟨gb244, _, none⟩) (by first | exact Kd.own_blk (Kd.R_ne HO_12.out BK244.out (by decide)) | (rw [add_block]; exact Kd.own_blk (Kd.R_ne HO_12.out BK244.out (by decide))) | (show (Addr.add _ _).block ≠ _; rw [add_block]; exact Kd.own_blk (Kd.R_ne HO_12.out BK244.out (by decide))) | (dsimp only; exact Kd.own_blk (Kd.R_ne HO_12.out BK244.out (by decide)))) _).trans (((cell_far (p := ⟨gb244, _, none⟩) (by first | exact Kd.own_blk (Kd.R_ne HO_12.out BK244.out (by decide)) | (rw [add_block]; exact Kd.own_blk (Kd.R_ne HO_12.out BK244.out (by decide))) | (show (Addr.add _ _).block ≠ _; rw [add_block]; exact Kd.own_blk (Kd.R_ne HO_12.out BK244.out (by decide))) | (dsimp only; exact Kd.own_blk (Kd.R_ne HO_12.out BK244.out (by decide)))) _).trans (((cell_far (p := ⟨gb244, _, none⟩) (by first | exact Kd.own_blk (Kd.R_ne HO_12.out BK244.out (by decide)) | (rw [add_block]; exact Kd.own_blk (Kd.R_ne HO_12.out BK244.out (by decide))) | (show (Addr.add _ _).block ≠ _; rw [add_block]; exact Kd.own_blk (Kd.R_ne HO_12.out BK244.out (by decide))) | (dsimp only; exact Kd.own_blk (Kd.R_ne HO_12.out BK244.out (by decide)))) _).trans (((cell_far (p := ⟨gb244, _, none⟩) (by first | exact Kd.own_blk (Kd.R_ne HO_12.out BK244.out (by decide)) | (rw [add_block]; exact Kd.own_blk (Kd.R_ne HO_12.out BK244.out (by decide))) | (show (Addr.add _ _).block ≠ _; rw [add_block]; exact Kd.own_blk (Kd.R_ne HO_12.out BK244.out (by decide))) | (dsimp only; exact Kd.own_blk (Kd.R_ne HO_12.out BK244.out (by decide)))) _).trans (hHeld.2.2.2))))))))⟩ (fun hHeld => ?_)
            clear hK K
            refine pure_ (i := 10) (N := some 9) (v := ?_) (a' := ?_) (bl_40 11 2047) rfl rfl (any_of HT_.out (by kernel_rfl)) (fun _ _ _ h => h) (Or.inl ⟨by rfl, ?_⟩) ?_ ?_; rotate_left; (· intro w'; go_simp; with_reducible rfl); rotate_left; (· simp only [Act.put, setIfInBounds_toArray, set_cons_zero, set_cons_succ, i64_w, i32_w]; rfl)
            refine done_ (done_of HT_.out (by kernel_rfl)) ?_
            try go_wp2
            refine bodyPost_ret (results_ct rfl _ _ gb244 60 #[.int .u64 ((rd_T59 t246 x14_1).f0), .int .u64 ((rd_T59 t246 x14_1).f1), .int .u64 ((rd_T59 t250 x14_1).f0), .int .u64 ((rd_T59 t250 x14_1).f1)] (0, 0) _ rfl (by (with_reducible repeat (first | refine blk_drewN ?_ _ | refine blk_drew ?_ | refine blk_alloc ?_ _)); refine blk_put (cs := #[.int .u64 ((rd_T59 t246 x14_1).f0), .int .u64 ((rd_T59 t246 x14_1).f1), .int .u64 ((rd_T59 t250 x14_1).f0), .int .u64 x245003_1]) ?_ 3 _ rfl; (with_reducible repeat (first | refine blk_drewN ?_ _ | refine blk_drew ?_ | refine blk_alloc ?_ _)); refine blk_put (cs := #[.int .u64 ((rd_T59 t246 x14_1).f0), .int .u64 ((rd_T59 t246 x14_1).f1), .int .u64 x245002_1, .int .u64 x245003_1]) ?_ 2 _ rfl; (with_reducible repeat (first | refine blk_drewN ?_ _ | refine blk_drew ?_ | refine blk_alloc ?_ _)); refine blk_put (cs := #[.int .u64 ((rd_T59 t246 x14_1).f0), .int .u64 x245001_1, .int .u64 x245002_1, .int .u64 x245003_1]) ?_ 1 _ rfl; (with_reducible repeat (first | refine blk_drewN ?_ _ | refine blk_drew ?_ | refine blk_alloc ?_ _)); refine blk_put (cs := #[.int .u64 x245000_1, .int .u64 x245001_1, .int .u64 x245002_1, .int .u64 x245003_1]) ?_ 0 _ rfl; (with_reducible repeat (first | refine blk_drewN ?_ _ | refine blk_drew ?_ | refine blk_alloc ?_ _)); exact BK244.out) Try.underlying60 rfl (by kernel_rfl)) rfl ?_
            exact ⟨by first | rfl | (simp [errW_none, errW_some] <;> rfl) | (simp [*, errW_none, errW_some] <;> rfl), by repeat (first | (with_reducible first | exact HB.out | apply below_alloc | apply pw_below_drewN | apply below_drew1 | refine below_set ?_ GE242.out | refine below_set ?_ GE243.out | refine below_set ?_ GE244.out) | exact HB.out)⟩
           ·
            rw [if_neg c48] at H
            have c48b0 : (t266 == t269) = false := beq_eq_false_iff_ne.mpr c48
            have c48b1 : (t266 != t269) = true := bne_iff_ne.mpr c48
            have H' := Aside0.mk H
            clear H
            try go_wp2
            have n0_ := Aside0.mk (Kd.R_drew HO_10.out)
            have n1_ := Aside0.mk (Kd.R_drew HO_12.out)
            have n2_ := Aside0.mk (blk_drew BK242.out)
            have n3_ := Aside0.mk (blk_drew BK243.out)
            have n4_ := Aside0.mk (blk_drew BK244.out)
            have n5_ := Aside0.mk (below_drew1 HB.out)
            clear HO_10
            clear HO_12
            clear BK242
            clear BK243
            clear BK244
            clear HB
            have HO_10 := n0_
            have HO_12 := n1_
            have BK242 := n2_
            have BK243 := n3_
            have BK244 := n4_
            have HB := n5_
            clear n0_ n1_ n2_ n3_ n4_ n5_
            obtain ⟨Ao58, co58, eo58⟩ := Kd.R_slice HO_10.out
            (first | subst eo58 | (injection eo58 with f1_ f2_ f3_; have f4_ := f1_.symm; have f5_ := f3_.symm; clear f1_ f2_ f3_; subst f4_; subst f5_))
            have p254 : 0 ≤ (x14_1 : Int) := of_decide_eq_true (by first | (with_reducible assumption) | assumption)
            have q254 : x14_1 < (t246.length : Int) := of_decide_eq_true (by first | (with_reducible assumption) | assumption)
            obtain ⟨ad254, e254, hx254_0, hx254_1⟩ := at_T59 (Kd.R_reads' HO_10.out).2.2 x14_1 p254 q254
            cases e254
            replace p254 := eq_true p254
            replace q254 := eq_true q254
            obtain ⟨Ao59, co59, eo59⟩ := Kd.R_slice HO_12.out
            (first | subst eo59 | (injection eo59 with f1_ f2_ f3_; have f4_ := f1_.symm; have f5_ := f3_.symm; clear f1_ f2_ f3_; subst f4_; subst f5_))
            have p255 : 0 ≤ (x14_1 : Int) := of_decide_eq_true (by first | (with_reducible assumption) | assumption)
            have q255 : x14_1 < (t250.length : Int) := of_decide_eq_true (by first | (with_reducible assumption) | assumption)
            obtain ⟨ad255, e255, hx255_0, hx255_1⟩ := at_T59 (Kd.R_reads' HO_12.out).2.2 x14_1 p255 q255
            cases e255
            replace p255 := eq_true p255
            replace q255 := eq_true q255
            have p264 : 0 ≤ (x14_1 : Int) := of_decide_eq_true (by first | (with_reducible assumption) | assumption)
            have q264 : x14_1 < (t246.length : Int) := of_decide_eq_true (by first | (with_reducible assumption) | assumption)
            obtain ⟨ad264, e264, hx264_0, hx264_1⟩ := at_T59 (Kd.R_reads' HO_10.out).2.2 x14_1 p264 q264
            obtain rfl : ad254 = ad264 := (by injection e264)
            replace p264 := eq_true p264
            replace q264 := eq_true q264
            have p265 : 0 ≤ (x14_1 : Int) := of_decide_eq_true (by first | (with_reducible assumption) | assumption)
            have q265 : x14_1 < (t246.length : Int) := of_decide_eq_true (by first | (with_reducible assumption) | assumption)
            obtain ⟨ad265, e265, hx265_0, hx265_1⟩ := at_T59 (Kd.R_reads' HO_10.out).2.2 x14_1 p265 q265
            obtain rfl : ad254 = ad265 := (by injection e265)
            replace p265 := eq_true p265
            replace q265 := eq_true q265
            have p267 : 0 ≤ (x14_1 : Int) := of_decide_eq_true (by first | (with_reducible assumption) | assumption)
            have q267 : x14_1 < (t250.length : Int) := of_decide_eq_true (by first | (with_reducible assumption) | assumption)
            obtain ⟨ad267, e267, hx267_0, hx267_1⟩ := at_T59 (Kd.R_reads' HO_12.out).2.2 x14_1 p267 q267
            obtain rfl : ad255 = ad267 := (by injection e267)
            replace p267 := eq_true p267
            replace q267 := eq_true q267
            have p268 : 0 ≤ (x14_1 : Int) := of_decide_eq_true (by first | (with_reducible assumption) | assumption)
            have q268 : x14_1 < (t250.length : Int) := of_decide_eq_true (by first | (with_reducible assumption) | assumption)
            obtain ⟨ad268, e268, hx268_0, hx268_1⟩ := at_T59 (Kd.R_reads' HO_12.out).2.2 x14_1 p268 q268
            obtain rfl : ad255 = ad268 := (by injection e268)
            replace p268 := eq_true p268
            replace q268 := eq_true q268
            refine start_ (n := 34) (S := fun w' => w'.cell? (ad254.add ((x14_1).toNat * 2)) = some (.int .u64 ((rd_T59 t246 x14_1).f0)) ∧ w'.cell? ⟨(ad254.add ((x14_1).toNat * 2)).block, (ad254.add ((x14_1).toNat * 2)).off + 1, none⟩ = some (.int .u64 ((rd_T59 t246 x14_1).f1)) ∧ w'.cell? (ad255.add ((x14_1).toNat * 2)) = some (.int .u64 ((rd_T59 t250 x14_1).f0)) ∧ w'.cell? ⟨(ad255.add ((x14_1).toNat * 2)).block, (ad255.add ((x14_1).toNat * 2)).off + 1, none⟩ = some (.int .u64 ((rd_T59 t250 x14_1).f1)) ∧ w'.cell? (ad254.add ((x14_1).toNat * 2)) = some (.int .u64 ((rd_T59 t246 x14_1).f0)) ∧ w'.cell? ⟨(ad254.add ((x14_1).toNat * 2)).block, (ad254.add ((x14_1).toNat * 2)).off + 1, none⟩ = some (.int .u64 ((rd_T59 t246 x14_1).f1)) ∧ w'.cell? (ad254.add ((x14_1).toNat * 2)) = some (.int .u64 ((rd_T59 t246 x14_1).f0)) ∧ w'.cell? ⟨(ad254.add ((x14_1).toNat * 2)).block, (ad254.add ((x14_1).toNat * 2)).off + 1, none⟩ = some (.int .u64 ((rd_T59 t246 x14_1).f1)) ∧ w'.cell? (ad255.add ((x14_1).toNat * 2)) = some (.int .u64 ((rd_T59 t250 x14_1).f0)) ∧ w'.cell? ⟨(ad255.add ((x14_1).toNat * 2)).block, (ad255.add ((x14_1).toNat * 2)).off + 1, none⟩ = some (.int .u64 ((rd_T59 t250 x14_1).f1)) ∧ w'.cell? (ad255.add ((x14_1).toNat * 2)) = some (.int .u64 ((rd_T59 t250 x14_1).f0)) ∧ w'.cell? ⟨(ad255.add ((x14_1).toNat * 2)).block, (ad255.add ((x14_1).toNat * 2)).off + 1, none⟩ = some (.int .u64 ((rd_T59 t250 x14_1).f1))) (ds := []) #[false, false, false, false, false, false, false, false, false, false, false, false, false, false, false, false, false, false, false, false, false, false, false, false, false, false, false, false, false, false, false, false, false, false] (by kernel_rfl) rfl rfl ⟨hx254_0, hx254_1, hx255_0, hx255_1, hx264_0, hx264_1, hx265_0, hx265_1, hx267_0, hx267_1, hx268_0, hx268_1⟩ (fun hHeld => ?_); refine with_tabW merkle_Collide.tab8 merkle_Collide.bits8 (fun HT_ HW_ => ?_)
            generalize wc.drew = w57 at HO_10 HO_12 BK242 BK243 BK244 HB hx254_0 hx254_1 hx255_0 hx255_1 hx264_0 hx264_1 hx265_0 hx265_1 hx267_0 hx267_1 hx268_0 hx268_1 hHeld ⊢
            refine pure_ (i := 0) (N := some 52) (v := ?_) (a' := ?_) (bl_40 34 1) rfl rfl (any_of HT_.out (by kernel_rfl)) (fun _ _ _ h => h) (Or.inl ⟨by rfl, ?_⟩) ?_ ?_; rotate_left; (· intro w'; go_simp; with_reducible rfl); rotate_left; (· simp only [Act.put, setIfInBounds_toArray, set_cons_zero, set_cons_succ, i64_w, i32_w]; rfl)
            refine pure_ (i := 1) (N := some 53) (v := ?_) (a' := ?_) (bl_40 34 3) rfl rfl (any_of HT_.out (by kernel_rfl)) (fun _ _ _ h => h) (Or.inl ⟨by rfl, ?_⟩) ?_ ?_; rotate_left; (· intro w'; go_simp; with_reducible rfl); rotate_left; (· simp only [Act.put, setIfInBounds_toArray, set_cons_zero, set_cons_succ, i64_w, i32_w]; rfl)
            refine pure_ (i := 2) (N := some 54) (v := ?_) (a' := ?_) (bl_40 34 7) rfl rfl (any_of HT_.out (by kernel_rfl)) (fun _ _ _ h => h) (Or.inl ⟨by rfl, ?_⟩) ?_ ?_; rotate_left; (· intro w'; go_simp; with_reducible rfl); rotate_left; (· simp only [Act.put, setIfInBounds_toArray, set_cons_zero, set_cons_succ, i64_w, i32_w]; rfl)
            refine pure_ (i := 4) (N := some 56) (v := ?_) (a' := ?_) (bl_40 34 23) rfl rfl (any_of HT_.out (by kernel_rfl)) (fun _ _ _ h => h) (Or.inl ⟨by rfl, ?_⟩) ?_ ?_; rotate_left; (· intro w'; go_simp; with_reducible rfl); rotate_left; (· simp only [Act.put, setIfInBounds_toArray, set_cons_zero, set_cons_succ, i64_w, i32_w]; rfl)
            refine pure_ (i := 5) (N := some 57) (v := ?_) (a' := ?_) (bl_40 34 55) rfl rfl (any_of HT_.out (by kernel_rfl)) (fun _ _ _ h => h) (Or.inl ⟨by rfl, ?_⟩) ?_ ?_; rotate_left; (· intro w'; go_simp; with_reducible rfl); rotate_left; (· simp only [Act.put, setIfInBounds_toArray, set_cons_zero, set_cons_succ, i64_w, i32_w]; rfl)
            refine pure_ (i := 6) (N := some 58) (v := ?_) (a' := ?_) (bl_40 34 119) rfl rfl (any_of HT_.out (by kernel_rfl)) (fun _ _ _ h => h) (Or.inl ⟨by rfl, ?_⟩) ?_ ?_; rotate_left; (· intro w'; go_simp; with_reducible rfl); rotate_left; (· simp only [Act.put, setIfInBounds_toArray, set_cons_zero, set_cons_succ, i64_w, i32_w]; rfl)
            refine take_ (i := 3) (N := some 55) (v := ?_) (a' := ?_) (bl_40 34 127) rfl rfl (take_ofW HT_.out HW_.out (by kernel_rfl)) (fun _ _ _ h => h) (Or.inl ⟨by rfl, ?_⟩) hHeld ?_ ?_; rotate_left; (· rintro w' ⟨s0, s1, s2, s3, s4, s5, s6, s7, s8, s9, s10, s11⟩; go_simp; with_reducible rfl); rotate_left; (· simp only [Act.put, setIfInBounds_toArray, set_cons_zero, set_cons_succ, i64_w, i32_w]; rfl)
            refine take_ (i := 7) (N := some 59) (v := ?_) (a' := ?_) (bl_40 34 255) rfl rfl (take_ofW HT_.out HW_.out (by kernel_rfl)) (fun _ _ _ h => h) (Or.inl ⟨by rfl, ?_⟩) hHeld ?_ ?_; rotate_left; (· rintro w' ⟨s0, s1, s2, s3, s4, s5, s6, s7, s8, s9, s10, s11⟩; go_simp; with_reducible rfl); rotate_left; (· simp only [Act.put, setIfInBounds_toArray, set_cons_zero, set_cons_succ, i64_w, i32_w]; rfl)
            refine pure_ (i := 8) (N := some 60) (v := ?_) (a' := ?_) (bl_40 34 511) rfl rfl (any_of HT_.out (by kernel_rfl)) (fun _ _ _ h => h) (Or.inl ⟨by rfl, ?_⟩) ?_ ?_; rotate_left; (· intro w'; go_simp; with_reducible rfl); rotate_left; (· simp only [Act.put, setIfInBounds_toArray, set_cons_zero, set_cons_succ, i64_w, i32_w]; rfl)
            refine pure_ (i := 9) (N := some 61) (v := ?_) (a' := ?_) (bl_40 34 1023) rfl rfl (any_of HT_.out (by kernel_rfl)) (fun _ _ _ h => h) (Or.inl ⟨by rfl, ?_⟩) ?_ ?_; rotate_left; (· intro w'; go_simp; with_reducible rfl); rotate_left; (· simp only [Act.put, setIfInBounds_toArray, set_cons_zero, set_cons_succ, i64_w, i32_w]; rfl)
            refine pure_ (i := 10) (N := some 62) (v := ?_) (a' := ?_) (bl_40 34 2047) rfl rfl (any_of HT_.out (by kernel_rfl)) (fun _ _ _ h => h) (Or.inl ⟨by rfl, ?_⟩) ?_ ?_; rotate_left; (· intro w'; go_simp; with_reducible rfl); rotate_left; (· simp only [Act.put, setIfInBounds_toArray, set_cons_zero, set_cons_succ, i64_w, i32_w]; rfl)
            refine pure_ (i := 11) (N := some 63) (v := ?_) (a' := ?_) (bl_40 34 4095) rfl rfl (any_of HT_.out (by kernel_rfl)) (fun _ _ _ h => h) (Or.inl ⟨by rfl, ?_⟩) ?_ ?_; rotate_left; (· intro w'; go_simp; with_reducible rfl); rotate_left; (· simp only [Act.put, setIfInBounds_toArray, set_cons_zero, set_cons_succ, i64_w, i32_w]; rfl)
            refine pure_ (i := 12) (N := some 64) (v := ?_) (a' := ?_) (bl_40 34 8191) rfl rfl (any_of HT_.out (by kernel_rfl)) (fun _ _ _ h => h) (Or.inl ⟨by rfl, ?_⟩) ?_ ?_; rotate_left; (· intro w'; go_simp; with_reducible rfl); rotate_left; (· simp only [Act.put, setIfInBounds_toArray, set_cons_zero, set_cons_succ, i64_w, i32_w]; rfl)
            refine pure_ (i := 13) (N := some 65) (v := ?_) (a' := ?_) (bl_40 34 16383) rfl rfl (any_of HT_.out (by kernel_rfl)) (fun _ _ _ h => h) (Or.inl ⟨by rfl, ?_⟩) ?_ ?_; rotate_left; (· intro w'; go_simp; with_reducible rfl); rotate_left; (· simp only [Act.put, setIfInBounds_toArray, set_cons_zero, set_cons_succ, i64_w, i32_w]; rfl)
            refine pure_ (i := 15) (N := some 67) (v := ?_) (a' := ?_) (bl_40 34 49151) rfl rfl (any_of HT_.out (by kernel_rfl)) (fun _ _ _ h => h) (Or.inl ⟨by rfl, ?_⟩) ?_ ?_; rotate_left; (· intro w'; go_simp; with_reducible rfl); rotate_left; (· simp only [Act.put, setIfInBounds_toArray, set_cons_zero, set_cons_succ, i64_w, i32_w]; rfl)
            refine pure_ (i := 16) (N := some 68) (v := ?_) (a' := ?_) (bl_40 34 114687) rfl rfl (any_of HT_.out (by kernel_rfl)) (fun _ _ _ h => h) (Or.inl ⟨by rfl, ?_⟩) ?_ ?_; rotate_left; (· intro w'; go_simp; with_reducible rfl); rotate_left; (· simp only [Act.put, setIfInBounds_toArray, set_cons_zero, set_cons_succ, i64_w, i32_w]; rfl)
            refine pure_ (i := 17) (N := some 69) (v := ?_) (a' := ?_) (bl_40 34 245759) rfl rfl (any_of HT_.out (by kernel_rfl)) (fun _ _ _ h => h) (Or.inl ⟨by rfl, ?_⟩) ?_ ?_; rotate_left; (· intro w'; go_simp; with_reducible rfl); rotate_left; (· simp only [Act.put, setIfInBounds_toArray, set_cons_zero, set_cons_succ, i64_w, i32_w]; rfl)
            refine pure_ (i := 18) (N := some 70) (v := ?_) (a' := ?_) (bl_40 34 507903) rfl rfl (any_of HT_.out (by kernel_rfl)) (fun _ _ _ h => h) (Or.inl ⟨by rfl, ?_⟩) ?_ ?_; rotate_left; (· intro w'; go_simp; with_reducible rfl); rotate_left; (· simp only [Act.put, setIfInBounds_toArray, set_cons_zero, set_cons_succ, i64_w, i32_w]; rfl)
            refine pure_ (i := 21) (N := some 73) (v := ?_) (a' := ?_) (bl_40 34 2605055) rfl rfl (any_of HT_.out (by kernel_rfl)) (fun _ _ _ h => h) (Or.inl ⟨by rfl, ?_⟩) ?_ ?_; rotate_left; (· intro w'; go_simp; with_reducible rfl); rotate_left; (· simp only [Act.put, setIfInBounds_toArray, set_cons_zero, set_cons_succ, i64_w, i32_w]; rfl)
            refine pure_ (i := 22) (N := some 74) (v := ?_) (a' := ?_) (bl_40 34 6799359) rfl rfl (any_of HT_.out (by kernel_rfl)) (fun _ _ _ h => h) (Or.inl ⟨by rfl, ?_⟩) ?_ ?_; rotate_left; (· intro w'; go_simp; with_reducible rfl); rotate_left; (· simp only [Act.put, setIfInBounds_toArray, set_cons_zero, set_cons_succ, i64_w, i32_w]; rfl)
            refine pure_ (i := 23) (N := some 75) (v := ?_) (a' := ?_) (bl_40 34 15187967) rfl rfl (any_of HT_.out (by kernel_rfl)) (fun _ _ _ h => h) (Or.inl ⟨by rfl, ?_⟩) ?_ ?_; rotate_left; (· intro w'; go_simp; with_reducible rfl); rotate_left; (· simp only [Act.put, setIfInBounds_toArray, set_cons_zero, set_cons_succ, i64_w, i32_w]; rfl)
            refine pure_ (i := 24) (N := some 76) (v := ?_) (a' := ?_) (bl_40 34 31965183) rfl rfl (any_of HT_.out (by kernel_rfl)) (fun _ _ _ h => h) (Or.inl ⟨by rfl, ?_⟩) ?_ ?_; rotate_left; (· intro w'; go_simp; with_reducible rfl); rotate_left; (· simp only [Act.put, setIfInBounds_toArray, set_cons_zero, set_cons_succ, i64_w, i32_w]; rfl)
            refine pure_ (i := 26) (N := some 78) (v := ?_) (a' := ?_) (bl_40 34 99074047) rfl rfl (any_of HT_.out (by kernel_rfl)) (fun _ _ _ h => h) (Or.inl ⟨by rfl, ?_⟩) ?_ ?_; rotate_left; (· intro w'; go_simp; with_reducible rfl); rotate_left; (· simp only [Act.put, setIfInBounds_toArray, set_cons_zero, set_cons_succ, i64_w, i32_w]; rfl)
            refine pure_ (i := 27) (N := some 79) (v := ?_) (a' := ?_) (bl_40 34 233291775) rfl rfl (any_of HT_.out (by kernel_rfl)) (fun _ _ _ h => h) (Or.inl ⟨by rfl, ?_⟩) ?_ ?_; rotate_left; (· intro w'; go_simp; with_reducible rfl); rotate_left; (· simp only [Act.put, setIfInBounds_toArray, set_cons_zero, set_cons_succ, i64_w, i32_w]; rfl)
            refine pure_ (i := 28) (N := some 80) (v := ?_) (a' := ?_) (bl_40 34 501727231) rfl rfl (any_of HT_.out (by kernel_rfl)) (fun _ _ _ h => h) (Or.inl ⟨by rfl, ?_⟩) ?_ ?_; rotate_left; (· intro w'; go_simp; with_reducible rfl); rotate_left; (· simp only [Act.put, setIfInBounds_toArray, set_cons_zero, set_cons_succ, i64_w, i32_w]; rfl)
            refine pure_ (i := 29) (N := some 81) (v := ?_) (a' := ?_) (bl_40 34 1038598143) rfl rfl (any_of HT_.out (by kernel_rfl)) (fun _ _ _ h => h) (Or.inl ⟨by rfl, ?_⟩) ?_ ?_; rotate_left; (· intro w'; go_simp; with_reducible rfl); rotate_left; (· simp only [Act.put, setIfInBounds_toArray, set_cons_zero, set_cons_succ, i64_w, i32_w]; rfl)
            refine take_ (i := 14) (N := some 66) (v := ?_) (a' := ?_) (bl_40 34 1038614527) rfl rfl (take_ofW HT_.out HW_.out (by kernel_rfl)) (fun _ _ _ h => h) (Or.inl ⟨by rfl, ?_⟩) hHeld ?_ ?_; rotate_left; (· rintro w' ⟨s0, s1, s2, s3, s4, s5, s6, s7, s8, s9, s10, s11⟩; go_simp; with_reducible rfl); rotate_left; (· simp only [Act.put, setIfInBounds_toArray, set_cons_zero, set_cons_succ, i64_w, i32_w]; rfl)
            refine take_ (i := 19) (N := some 71) (v := ?_) (a' := ?_) (bl_40 34 1039138815) rfl rfl (take_ofW HT_.out HW_.out (by kernel_rfl)) (fun _ _ _ h => h) (Or.inl ⟨by rfl, ?_⟩) hHeld ?_ ?_; rotate_left; (· rintro w' ⟨s0, s1, s2, s3, s4, s5, s6, s7, s8, s9, s10, s11⟩; go_simp; with_reducible rfl); rotate_left; (· simp only [Act.put, setIfInBounds_toArray, set_cons_zero, set_cons_succ, i64_w, i32_w]; rfl)
            refine take_ (i := 25) (N := some 77) (v := ?_) (a' := ?_) (bl_40 34 1072693247) rfl rfl (take_ofW HT_.out HW_.out (by kernel_rfl)) (fun _ _ _ h => h) (Or.inl ⟨by rfl, ?_⟩) hHeld ?_ ?_; rotate_left; (· rintro w' ⟨s0, s1, s2, s3, s4, s5, s6, s7, s8, s9, s10, s11⟩; go_simp; with_reducible rfl); rotate_left; (· simp only [Act.put, setIfInBounds_toArray, set_cons_zero, set_cons_succ, i64_w, i32_w]; rfl)
            refine take_ (i := 30) (N := some 82) (v := ?_) (a' := ?_) (bl_40 34 2146435071) rfl rfl (take_ofW HT_.out HW_.out (by kernel_rfl)) (fun _ _ _ h => h) (Or.inl ⟨by rfl, ?_⟩) hHeld ?_ ?_; rotate_left; (· rintro w' ⟨s0, s1, s2, s3, s4, s5, s6, s7, s8, s9, s10, s11⟩; go_simp; with_reducible rfl); rotate_left; (· simp only [Act.put, setIfInBounds_toArray, set_cons_zero, set_cons_succ, i64_w, i32_w]; rfl)
            refine one_ (i := 20) (N := some 72) (bl_40 34 2147483647) rfl rfl (one_of HT_.out (by kernel_rfl)) (by decide) (fun K hK => ?_)
            refine goes_ Try.func21 (by kernel_rfl) rfl #[.int .u64 ((rd_T59 t246 x14_1).f0), .int .u64 ((rd_T59 t246 x14_1).f1)] (by rfl) rfl rfl (by (try simp only [map_toArray, map_cons, map_nil]); first | done | rfl) ?_
            with_reducible refine (digest_Join.calls ((rd_T59 t246 x14_1).f0) ((rd_T59 t246 x14_1).f1) t266 _ A46.out).mono ?_
            rintro e w' ⟨rfl, ⟨nd, rfl⟩⟩
            refine ⟨_, rfl, ?_⟩
            refine hK.out _ _ ⟨hHeld.1, hHeld.2.1, hHeld.2.2.1, hHeld.2.2.2.1, hHeld.2.2.2.2.1, hHeld.2.2.2.2.2.1, hHeld.2.2.2.2.2.2.1, hHeld.2.2.2.2.2.2.2.1, hHeld.2.2.2.2.2.2.2.2.1, hHeld.2.2.2.2.2.2.2.2.2.1, hHeld.2.2.2.2.2.2.2.2.2.2.1, hHeld.2.2.2.2.2.2.2.2.2.2.2⟩ (fun hHeld => ?_)
            clear hK K
            refine norm_ (a' := ?_) ?_ ?_
            rotate_left
            ·
             show Act.put _ (some 72) _ = _
             simp only [Act.put, setIfInBounds_toArray, set_cons_zero, set_cons_succ, i64_w, i32_w]
             rfl
            refine one_ (i := 31) (N := some 83) (bl_40 34 4294967295) rfl rfl (one_of HT_.out (by kernel_rfl)) (by decide) (fun K hK => ?_)
            refine goes_ Try.func21 (by kernel_rfl) rfl #[.int .u64 ((rd_T59 t250 x14_1).f0), .int .u64 ((rd_T59 t250 x14_1).f1)] (by rfl) rfl rfl (by (try simp only [map_toArray, map_cons, map_nil]); first | done | rfl) ?_
            with_reducible refine (digest_Join.calls ((rd_T59 t250 x14_1).f0) ((rd_T59 t250 x14_1).f1) t269 _ A47.out).mono ?_
            rintro e w' ⟨rfl, ⟨nd, rfl⟩⟩
            refine ⟨_, rfl, ?_⟩
            refine hK.out _ _ ⟨hHeld.1, hHeld.2.1, hHeld.2.2.1, hHeld.2.2.2.1, hHeld.2.2.2.2.1, hHeld.2.2.2.2.2.1, hHeld.2.2.2.2.2.2.1, hHeld.2.2.2.2.2.2.2.1, hHeld.2.2.2.2.2.2.2.2.1, hHeld.2.2.2.2.2.2.2.2.2.1, hHeld.2.2.2.2.2.2.2.2.2.2.1, hHeld.2.2.2.2.2.2.2.2.2.2.2⟩ (fun hHeld => ?_)
            clear hK K
            refine norm_ (a' := ?_) ?_ ?_
            rotate_left
            ·
             show Act.put _ (some 83) _ = _
             simp only [Act.put, setIfInBounds_toArray, set_cons_zero, set_cons_succ, i64_w, i32_w]
             rfl
            refine pure_ (i := 32) (N := some 84) (v := ?_) (a' := ?_) (bl_40 34 8589934591) rfl rfl (any_of HT_.out (by kernel_rfl)) (fun _ _ _ h => h) (Or.inl ⟨by rfl, ?_⟩) ?_ ?_; rotate_left; (· intro w'; go_simp; with_reducible rfl); rotate_left; (· simp only [Act.put, setIfInBounds_toArray, set_cons_zero, set_cons_succ, i64_w, i32_w]; rfl)
            refine pure_ (i := 33) (N := some 85) (v := ?_) (a' := ?_) (bl_40 34 17179869183) rfl rfl (any_of HT_.out (by kernel_rfl)) (fun _ _ _ h => h) (Or.inl ⟨by rfl, ?_⟩) ?_ ?_; rotate_left; (· intro w'; go_simp; with_reducible rfl); rotate_left; (· simp only [Act.put, setIfInBounds_toArray, set_cons_zero, set_cons_succ, i64_w, i32_w]; rfl)
            refine done_ (done_of HT_.out (by kernel_rfl)) ?_
            try go_wp2
            go_roundg kj18
            case measure => have := HK1.out; have := HJ18.out; omega
            case rel => exact ⟨(wrap64 (x14_1 + 1)), (x245000_1), (x245001_1), (x245002_1), (x245003_1), (by first | rfl | (simp; done) | (simp [*]; done)), H', ⟨by have := HK1.out; have := HJ18.out; omega⟩, ⟨by (with_reducible repeat (first | apply Kd.R_alloc | apply Kd.R_drewN | apply Kd.R_drew)); exact HO_10.out⟩, ⟨by (with_reducible repeat (first | apply Kd.R_alloc | apply Kd.R_drewN | apply Kd.R_drew)); exact HO_12.out⟩, ⟨by (with_reducible repeat (first | refine blk_drewN ?_ _ | refine blk_drew ?_ | refine blk_alloc ?_ _)); exact BK242.out⟩, ⟨by (with_reducible repeat (first | refine blk_drewN ?_ _ | refine blk_drew ?_ | refine blk_alloc ?_ _)); exact BK243.out⟩, ⟨by (with_reducible repeat (first | refine blk_drewN ?_ _ | refine blk_drew ?_ | refine blk_alloc ?_ _)); exact BK244.out⟩, ⟨by repeat (first | (with_reducible first | exact HB.out | apply below_alloc | apply pw_below_drewN | apply below_drew1 | refine below_set ?_ GE242.out | refine below_set ?_ GE243.out | refine below_set ?_ GE244.out) | exact HB.out)⟩⟩
         ·
          rw [if_neg c26] at H
          exact absurd H (by simp)
        ·
         rw [if_neg c25] at H
         exact absurd H (by simp)
       ·
        rw [if_neg c24] at H
        exact absurd H (by simp)
      ·
       replace c23 := Bool.eq_false_iff.mpr c23
       subst c23
       have H1 : (some (0, 0, 0, 0, false)) = some (r1, r2, r3, r4, r5) := by rw [if_neg (show ¬ (false = true) by decide)] at H; exact H
       clear H
       have H := H1
       clear H1
       simp only [Option.some.injEq, Prod.mk.injEq] at H
       obtain ⟨rfl, rfl, rfl, rfl, rfl⟩ := H
       have hnb60 := NB244_242.out
       have hnc60 := NB242_244.out
       have hnb61 := NB244_243.out
       have hnc61 := NB243_244.out
       have hcz62_0 : wc.cell? ⟨gb244, 0, none⟩ = some (.int .u64 x245000_1) := (blk_cell BK244.out 0).trans rfl
       have hcz62_1 : wc.cell? ⟨gb244, 1, none⟩ = some (.int .u64 x245001_1) := (blk_cell BK244.out 1).trans rfl
       have hcz62_2 : wc.cell? ⟨gb244, 2, none⟩ = some (.int .u64 x245002_1) := (blk_cell BK244.out 2).trans rfl
       have hcz62_3 : wc.cell? ⟨gb244, 3, none⟩ = some (.int .u64 x245003_1) := (blk_cell BK244.out 3).trans rfl
       have hfz62_0 := blk_frozen BK244.out 0
       have hfz62_1 := blk_frozen BK244.out 1
       have hfz62_2 := blk_frozen BK244.out 2
       have hfz62_3 := blk_frozen BK244.out 3
       go_wp2
       refine bodyPost_ret (results_ct rfl _ _ gb244 60 #[.int .u64 0, .int .u64 0, .int .u64 0, .int .u64 0] (0, 0) _ rfl (by (with_reducible repeat (first | refine blk_drewN ?_ _ | refine blk_drew ?_ | refine blk_alloc ?_ _)); refine blk_put (cs := #[.int .u64 0, .int .u64 0, .int .u64 0, .int .u64 x245003_1]) ?_ 3 _ rfl; (with_reducible repeat (first | refine blk_drewN ?_ _ | refine blk_drew ?_ | refine blk_alloc ?_ _)); refine blk_put (cs := #[.int .u64 0, .int .u64 0, .int .u64 x245002_1, .int .u64 x245003_1]) ?_ 2 _ rfl; (with_reducible repeat (first | refine blk_drewN ?_ _ | refine blk_drew ?_ | refine blk_alloc ?_ _)); refine blk_put (cs := #[.int .u64 0, .int .u64 x245001_1, .int .u64 x245002_1, .int .u64 x245003_1]) ?_ 1 _ rfl; (with_reducible repeat (first | refine blk_drewN ?_ _ | refine blk_drew ?_ | refine blk_alloc ?_ _)); refine blk_put (cs := #[.int .u64 x245000_1, .int .u64 x245001_1, .int .u64 x245002_1, .int .u64 x245003_1]) ?_ 0 _ rfl; (with_reducible repeat (first | refine blk_drewN ?_ _ | refine blk_drew ?_ | refine blk_alloc ?_ _)); exact BK244.out) Try.underlying60 rfl (by kernel_rfl)) rfl ?_
       exact ⟨by first | rfl | (simp [errW_none, errW_some] <;> rfl) | (simp [*, errW_none, errW_some] <;> rfl), by repeat (first | (with_reducible first | exact HB.out | apply below_alloc | apply pw_below_drewN | apply below_drew1 | refine below_set ?_ GE242.out | refine below_set ?_ GE243.out | refine below_set ?_ GE244.out) | exact HB.out)⟩
 ·
  rw [if_neg c6] at H
  have c6b0 : (t245 == 0) = false := beq_eq_false_iff_ne.mpr c6
  have c6b1 : (t245 != 0) = true := bne_iff_ne.mpr c6
  simp only [Option.some.injEq, Prod.mk.injEq] at H
  obtain ⟨rfl, rfl, rfl, rfl, rfl⟩ := H
  go_enter Try.func40, Try.ntmps40
  go_wp2_with (first | ((with_reducible refine gate_dst (N := 6) rfl ?_); (try (refine gate_guard (by rfl) ?_; dsimp only)); refine box_event ?hg (N := 6) ?hd (cs := #[.int .u64 a2_0, .slice A2_1 l2_1.length c2_1]) (t := 50) ?hr ?_; (case hd => rfl); (case hg => rfl); (case hr => first | (go_simp; done) | (go_simp; rfl)); intro gb242 hg w63 hbox hb; have n0_ := Aside0.mk (below_step (by repeat (first | (with_reducible first | exact HB.out | apply below_alloc | apply pw_below_drewN | apply below_drew1) | exact HB.out)) hb); have n1_ := Aside0.mk (hbox); have n2_ := Aside0.mk ((by rw [hg]; exact (below_size (by repeat (first | (with_reducible first | exact HB.out | apply below_alloc | apply pw_below_drewN | apply below_drew1) | exact HB.out))) : w.heap.size ≤ gb242)); have n3_ := Aside0.mk ((by rw [hg]; exact (below_size (by repeat (first | (with_reducible first | exact HB.out | apply below_alloc | apply pw_below_drewN | apply below_drew1) | exact HB.out))) : w.heap.size ≤ gb242)); clear HB; have HB := n0_; have BK242 := n1_; have GW242 := n2_; have GE242 := n3_; clear n0_ n1_ n2_ n3_; clear hb hbox hg) | ((with_reducible refine gate_dst (N := 7) rfl ?_); (try (refine gate_guard (by rfl) ?_; dsimp only)); refine box_event ?hg (N := 7) ?hd (cs := #[.int .u64 a3_0, .slice A3_1 l3_1.length c3_1]) (t := 50) ?hr ?_; (case hd => rfl); (case hg => rfl); (case hr => first | (go_simp; done) | (go_simp; rfl)); intro gb243 hg w64 hbox hb; have n0_ := Aside0.mk (blk_below (g := gb242) (o := .cells #[.int .u64 a2_0, .slice A2_1 l2_1.length c2_1] 50 (0, 0)) (by (with_reducible repeat (first | refine blk_drewN ?_ _ | refine blk_drew ?_ | refine blk_alloc ?_ _)); exact BK242.out) hb); have n1_ := Aside0.mk (below_step (by repeat (first | (with_reducible first | exact HB.out | apply below_alloc | apply pw_below_drewN | apply below_drew1 | refine below_set ?_ GE242.out) | exact HB.out)) hb); have n2_ := Aside0.mk (hbox); have n3_ := Aside0.mk ((by rw [hg]; exact (below_size (by repeat (first | (with_reducible first | exact HB.out | apply below_alloc | apply pw_below_drewN | apply below_drew1 | refine below_set ?_ GE242.out) | exact HB.out))) : w.heap.size ≤ gb243)); have n4_ := Aside0.mk ((by rw [hg]; exact (below_size (by repeat (first | (with_reducible first | exact HB.out | apply below_alloc | apply pw_below_drewN | apply below_drew1 | refine below_set ?_ GE242.out) | exact HB.out))) : w.heap.size ≤ gb243)); have n5_ := Aside0.mk ((by rw [hg]; exact Nat.ne_of_lt (blk_lt (g := gb242) (o := .cells #[.int .u64 a2_0, .slice A2_1 l2_1.length c2_1] 50 (0, 0)) (by (with_reducible repeat (first | refine blk_drewN ?_ _ | refine blk_drew ?_ | refine blk_alloc ?_ _)); exact BK242.out)) : gb242 ≠ gb243)); have n6_ := Aside0.mk ((by rw [hg]; exact Nat.ne_of_gt (blk_lt (g := gb242) (o := .cells #[.int .u64 a2_0, .slice A2_1 l2_1.length c2_1] 50 (0, 0)) (by (with_reducible repeat (first | refine blk_drewN ?_ _ | refine blk_drew ?_ | refine blk_alloc ?_ _)); exact BK242.out)) : gb243 ≠ gb242)); clear BK242; clear HB; have BK242 := n0_; have HB := n1_; have BK243 := n2_; have GW243 := n3_; have GE243 := n4_; have NB242_243 := n5_; have NB243_242 := n6_; clear n0_ n1_ n2_ n3_ n4_ n5_ n6_; clear hb hbox hg) | ((with_reducible refine gate_dst (N := 8) rfl ?_); (try (refine gate_guard (by rfl) ?_; dsimp only)); refine box_event ?hg (N := 8) ?hd (cs := #[.int .u64 0, .int .u64 0, .int .u64 0, .int .u64 0]) (t := 60) ?hr ?_; (case hd => rfl); (case hg => rfl); (case hr => first | (go_simp; done) | (go_simp; rfl)); intro gb244 hg w65 hbox hb; have n0_ := Aside0.mk (blk_below (g := gb242) (o := .cells #[.int .u64 a2_0, .slice A2_1 l2_1.length c2_1] 50 (0, 0)) (by (with_reducible repeat (first | refine blk_drewN ?_ _ | refine blk_drew ?_ | refine blk_alloc ?_ _)); exact BK242.out) hb); have n1_ := Aside0.mk (blk_below (g := gb243) (o := .cells #[.int .u64 a3_0, .slice A3_1 l3_1.length c3_1] 50 (0, 0)) (by (with_reducible repeat (first | refine blk_drewN ?_ _ | refine blk_drew ?_ | refine blk_alloc ?_ _)); exact BK243.out) hb); have n2_ := Aside0.mk (below_step (by repeat (first | (with_reducible first | exact HB.out | apply below_alloc | apply pw_below_drewN | apply below_drew1 | refine below_set ?_ GE242.out | refine below_set ?_ GE243.out) | exact HB.out)) hb); have n3_ := Aside0.mk (hbox); have n4_ := Aside0.mk ((by rw [hg]; exact (below_size (by repeat (first | (with_reducible first | exact HB.out | apply below_alloc | apply pw_below_drewN | apply below_drew1 | refine below_set ?_ GE242.out | refine below_set ?_ GE243.out) | exact HB.out))) : w.heap.size ≤ gb244)); have n5_ := Aside0.mk ((by rw [hg]; exact (below_size (by repeat (first | (with_reducible first | exact HB.out | apply below_alloc | apply pw_below_drewN | apply below_drew1 | refine below_set ?_ GE242.out | refine below_set ?_ GE243.out) | exact HB.out))) : w.heap.size ≤ gb244)); have n6_ := Aside0.mk ((by rw [hg]; exact Nat.ne_of_lt (blk_lt (g := gb242) (o := .cells #[.int .u64 a2_0, .slice A2_1 l2_1.length c2_1] 50 (0, 0)) (by (with_reducible repeat (first | refine blk_drewN ?_ _ | refine blk_drew ?_ | refine blk_alloc ?_ _)); exact BK242.out)) : gb242 ≠ gb244)); have n7_ := Aside0.mk ((by rw [hg]; exact Nat.ne_of_gt (blk_lt (g := gb242) (o := .cells #[.int .u64 a2_0, .slice A2_1 l2_1.length c2_1] 50 (0, 0)) (by (with_reducible repeat (first | refine blk_drewN ?_ _ | refine blk_drew ?_ | refine blk_alloc ?_ _)); exact BK242.out)) : gb244 ≠ gb242)); have n8_ := Aside0.mk ((by rw [hg]; exact Nat.ne_of_lt (blk_lt (g := gb243) (o := .cells #[.int .u64 a3_0, .slice A3_1 l3_1.length c3_1] 50 (0, 0)) (by (with_reducible repeat (first | refine blk_drewN ?_ _ | refine blk_drew ?_ | refine blk_alloc ?_ _)); exact BK243.out)) : gb243 ≠ gb244)); have n9_ := Aside0.mk ((by rw [hg]; exact Nat.ne_of_gt (blk_lt (g := gb243) (o := .cells #[.int .u64 a3_0, .slice A3_1 l3_1.length c3_1] 50 (0, 0)) (by (with_reducible repeat (first | refine blk_drewN ?_ _ | refine blk_drew ?_ | refine blk_alloc ?_ _)); exact BK243.out)) : gb244 ≠ gb243)); clear BK242; clear BK243; clear HB; have BK242 := n0_; have BK243 := n1_; have HB := n2_; have BK244 := n3_; have GW244 := n4_; have GE244 := n5_; have NB242_244 := n6_; have NB244_242 := n7_; have NB243_244 := n8_; have NB244_243 := n9_; clear n0_ n1_ n2_ n3_ n4_ n5_ n6_ n7_ n8_ n9_; clear hb hbox hg) | ((with_reducible refine gate_callee (f := 54) rfl ?_); refine goesL_ (some 17) rfl rfl Try.func54 (by kernel_rfl) rfl #[.int .i64 a0, .int .i64 a1] rfl (by (try simp only [map_toArray, map_cons, map_nil]); first | done | rfl) ?_; (with_reducible refine (merkle_place.calls a0 a1 t245 _ A5.out).mono ?_); rintro e w' ⟨rfl, ⟨nd, rfl⟩⟩; refine ⟨_, rfl, ?_⟩; (try (rw [drewN_self w65]; generalize hq_ : World.drewN w65 _ = w65; have n0_ : Aside0 (w65.heap[gb242]? = some (.cells #[.int .u64 a2_0, .slice A2_1 l2_1.length c2_1] 50 (0, 0))) := ⟨by rw [← hq_]; exact (by (with_reducible repeat (first | refine blk_drewN ?_ _ | refine blk_drew ?_ | refine blk_alloc ?_ _)); exact BK242.out)⟩; have n1_ : Aside0 (w65.heap[gb243]? = some (.cells #[.int .u64 a3_0, .slice A3_1 l3_1.length c3_1] 50 (0, 0))) := ⟨by rw [← hq_]; exact (by (with_reducible repeat (first | refine blk_drewN ?_ _ | refine blk_drew ?_ | refine blk_alloc ?_ _)); exact BK243.out)⟩; have n2_ : Aside0 (w65.heap[gb244]? = some (.cells #[.int .u64 0, .int .u64 0, .int .u64 0, .int .u64 0] 60 (0, 0))) := ⟨by rw [← hq_]; exact (by (with_reducible repeat (first | refine blk_drewN ?_ _ | refine blk_drew ?_ | refine blk_alloc ?_ _)); exact BK244.out)⟩; have n3_ : Aside0 (Below w.heap.size w w65) := ⟨by rw [← hq_]; exact (by repeat (first | (with_reducible first | exact HB.out | apply below_alloc | apply pw_below_drewN | apply below_drew1 | refine below_set ?_ GE242.out | refine below_set ?_ GE243.out | refine below_set ?_ GE244.out) | exact HB.out))⟩; clear BK242 BK243 BK244 HB hq_; have BK242 := n0_; have BK243 := n1_; have BK244 := n2_; have HB := n3_; clear n0_ n1_ n2_ n3_)); have hnb66 := NB244_242.out; have hnc66 := NB242_244.out; have hnb67 := NB244_243.out; have hnc67 := NB243_244.out; have hcz68_0 : w65.cell? ⟨gb244, 0, none⟩ = some (.int .u64 0) := (blk_cell BK244.out 0).trans rfl; have hcz68_1 : w65.cell? ⟨gb244, 1, none⟩ = some (.int .u64 0) := (blk_cell BK244.out 1).trans rfl; have hcz68_2 : w65.cell? ⟨gb244, 2, none⟩ = some (.int .u64 0) := (blk_cell BK244.out 2).trans rfl; have hcz68_3 : w65.cell? ⟨gb244, 3, none⟩ = some (.int .u64 0) := (blk_cell BK244.out 3).trans rfl; have hfz68_0 := blk_frozen BK244.out 0; have hfz68_1 := blk_frozen BK244.out 1; have hfz68_2 := blk_frozen BK244.out 2; have hfz68_3 := blk_frozen BK244.out 3))
  refine bodyPost_ret (results_ct rfl _ _ gb244 60 #[.int .u64 0, .int .u64 0, .int .u64 0, .int .u64 0] (0, 0) _ rfl (by (with_reducible repeat (first | refine blk_drewN ?_ _ | refine blk_drew ?_ | refine blk_alloc ?_ _)); refine blk_put (cs := #[.int .u64 0, .int .u64 0, .int .u64 0, .int .u64 0]) ?_ 3 _ rfl; (with_reducible repeat (first | refine blk_drewN ?_ _ | refine blk_drew ?_ | refine blk_alloc ?_ _)); refine blk_put (cs := #[.int .u64 0, .int .u64 0, .int .u64 0, .int .u64 0]) ?_ 2 _ rfl; (with_reducible repeat (first | refine blk_drewN ?_ _ | refine blk_drew ?_ | refine blk_alloc ?_ _)); refine blk_put (cs := #[.int .u64 0, .int .u64 0, .int .u64 0, .int .u64 0]) ?_ 1 _ rfl; (with_reducible repeat (first | refine blk_drewN ?_ _ | refine blk_drew ?_ | refine blk_alloc ?_ _)); refine blk_put (cs := #[.int .u64 0, .int .u64 0, .int .u64 0, .int .u64 0]) ?_ 0 _ rfl; (with_reducible repeat (first | refine blk_drewN ?_ _ | refine blk_drew ?_ | refine blk_alloc ?_ _)); exact BK244.out) Try.underlying60 rfl (by kernel_rfl)) rfl ?_
  exact ⟨by first | rfl | (simp [errW_none, errW_some] <;> rfl) | (simp [*, errW_none, errW_some] <;> rfl), by repeat (first | (with_reducible first | exact HB.out | apply below_alloc | apply pw_below_drewN | apply below_drew1 | refine below_set ?_ GE242.out | refine below_set ?_ GE243.out | refine below_set ?_ GE244.out) | exact HB.out)⟩

end Go.Proofs.Ytikicibbbeofnaa.MR
