-- Written by wip/hprint.py (this session's) with the kit's printer and contracts of our own. Not trusted: Lean checks it.
import Derived.Test.YtikicibbbeofnaaMR0
import Derived.Test.YtikicibbbeofnaaMR1
import Derived.Test.YtikicibbbeofnaaMR3
import Derived.Test.YtikicibbbeofnaaMR4
import Derived.Test.YtikicibbbeofnaaMR6
import Derived.Test.YtikicibbbeofnaaMR7
import Derived.Test.YtikicibbbeofnaaMR8
import Derived.Test.YtikicibbbeofnaaMR9d
namespace Go.Proofs.Ytikicibbbeofnaa.MR
open List (setIfInBounds_toArray set_cons_zero set_cons_succ map_toArray map_cons map_nil)
open Go.RowKit Go.Proofs.YtikicibbbeofnaaW.PrintWords Go.Proofs.YtikicibbbeofnaaW.PrintLast Go.Proofs.YtikicibbbeofnaaW.PrintMore
attribute [local go_sem] max2_int min2_int max_two min_two max_three min_three max_four min_four   -- for this text's walks alone
set_option linter.unusedVariables false
set_option linter.unusedSimpArgs false


set_option maxHeartbeats 8000000 in
set_option maxRecDepth 100000 in
theorem parolelaw04_MerkleMatchesReference.calls (k : Nat) (A0 : Option Addr) (c0 : Nat) (l0 : List Int) (a1_0 : Int) (A1_1 : Option Addr) (c1_1 : Nat) (l1_1 : List Int) (a1_2 : Int) (A1_3 : Option Addr) (c1_3 : Nat) (l1_3 : List Int) (a2_0 : Int) (a2_1 : Int) (a2_2 : Int) (r : Bool) (w : World) (hr0 : Kd.C (Kd.int .u64) w A0 l0.length l0) (hc0 : l0.length ≤ c0) (hr1_1 : Kd.C (Kd.int .u64) w A1_1 l1_1.length l1_1) (hc1_1 : l1_1.length ≤ c1_1) (hr1_3 : Kd.C (Kd.int .u64) w A1_3 l1_3.length l1_3) (hc1_3 : l1_3.length ≤ c1_3) (h : parolelaw04_MerkleMatchesReference.f k l0 a1_0 l1_1 a1_2 l1_3 a2_0 a2_1 a2_2 = some r) :
  Calls Try.prog 14 #[.slice A0 l0.length c0, .agg #[.int .u64 a1_0, .slice A1_1 l1_1.length c1_1, .int .u64 a1_2, .slice A1_3 l1_3.length c1_3], .agg #[.int .i64 a2_0, .int .i64 a2_1, .int .i64 a2_2]] w fun e w' => e = .returned (.bool r) ∧ Below w.heap.size w w' := by
 have hu57 := Try.underlying57
 have hu58 := Try.underlying58
 have hu46 := Try.underlying46
 have hu50 := Try.underlying50
 have hu60 := Try.underlying60
 have hu64 := Try.underlying64
 have HR0 := Aside0.mk hr0
 have HC0 := Aside0.mk hc0
 clear hr0 hc0
 have HR1_1 := Aside0.mk hr1_1
 have HC1_1 := Aside0.mk hc1_1
 clear hr1_1 hc1_1
 have HR1_3 := Aside0.mk hr1_3
 have HC1_3 := Aside0.mk hc1_3
 clear hr1_3 hc1_3
 have HB := Aside0.mk (Below.refl w.heap.size w)
 have H : ((parolelaw04_examples.f k).bind fun t305 => (if t305 = true then (if (l0.length : Int) > 60 then (parolelaw04_MerkleMatchesReference.j0 k l0 t305 true a1_0 l1_1 a1_2 l1_3 a2_0 a2_1 a2_2) else (if (l1_1.length : Int) > 60 then (parolelaw04_MerkleMatchesReference.j0 k l0 t305 true a1_0 l1_1 a1_2 l1_3 a2_0 a2_1 a2_2) else (parolelaw04_MerkleMatchesReference.j0 k l0 t305 (decide ((l1_3.length : Int) > 60)) a1_0 l1_1 a1_2 l1_3 a2_0 a2_1 a2_2))) else (none))) = some r := h
 clear h
 replace H := Option.bind_eq_some_iff.mp H
 obtain ⟨t305, A40, H⟩ := H
 replace H : (if t305 = true then (if (l0.length : Int) > 60 then (parolelaw04_MerkleMatchesReference.j0 k l0 t305 true a1_0 l1_1 a1_2 l1_3 a2_0 a2_1 a2_2) else (if (l1_1.length : Int) > 60 then (parolelaw04_MerkleMatchesReference.j0 k l0 t305 true a1_0 l1_1 a1_2 l1_3 a2_0 a2_1 a2_2) else (parolelaw04_MerkleMatchesReference.j0 k l0 t305 (decide ((l1_3.length : Int) > 60)) a1_0 l1_1 a1_2 l1_3 a2_0 a2_1 a2_2))) else (none)) = some r := H
 have A4 := Aside0.mk A40
 clear A40
 by_cases c5 : t305 = true
 ·
  subst c5
  have H1 : (if (l0.length : Int) > 60 then (parolelaw04_MerkleMatchesReference.j0 k l0 true true a1_0 l1_1 a1_2 l1_3 a2_0 a2_1 a2_2) else (if (l1_1.length : Int) > 60 then (parolelaw04_MerkleMatchesReference.j0 k l0 true true a1_0 l1_1 a1_2 l1_3 a2_0 a2_1 a2_2) else (parolelaw04_MerkleMatchesReference.j0 k l0 true (decide ((l1_3.length : Int) > 60)) a1_0 l1_1 a1_2 l1_3 a2_0 a2_1 a2_2))) = some r := by rw [if_pos rfl] at H; exact H
  clear H
  have H := H1
  clear H1
  have HC6 := Aside0.mk H
  clear H
  go_enter Try.func14, Try.ntmps14
  go_upto_region 4 with (first | ((with_reducible refine gate_dst (N := 4) rfl ?_); (try (refine gate_guard (by rfl) ?_; dsimp only)); refine box_event ?hg (N := 4) ?hd (cs := #[.int .u64 a1_0, .slice A1_1 l1_1.length c1_1, .int .u64 a1_2, .slice A1_3 l1_3.length c1_3]) (t := 57) ?hr ?_; (case hd => rfl); (case hg => rfl); (case hr => first | (go_simp; done) | (go_simp; rfl)); intro gb303 hg w7 hbox hb; have n0_ := Aside0.mk (below_step (by repeat (first | (with_reducible first | exact HB.out | apply below_alloc | apply pw_below_drewN | apply below_drew1) | exact HB.out)) hb); have n1_ := Aside0.mk (hbox); have n2_ := Aside0.mk ((by rw [hg]; exact (below_size (by repeat (first | (with_reducible first | exact HB.out | apply below_alloc | apply pw_below_drewN | apply below_drew1) | exact HB.out))) : w.heap.size ≤ gb303)); have n3_ := Aside0.mk ((by rw [hg]; exact (below_size (by repeat (first | (with_reducible first | exact HB.out | apply below_alloc | apply pw_below_drewN | apply below_drew1) | exact HB.out))) : w.heap.size ≤ gb303)); clear HB; have HB := n0_; have BK303 := n1_; have GW303 := n2_; have GE303 := n3_; clear n0_ n1_ n2_ n3_; clear hb hbox hg) | ((with_reducible refine gate_dst (N := 5) rfl ?_); (try (refine gate_guard (by rfl) ?_; dsimp only)); refine box_event ?hg (N := 5) ?hd (cs := #[.int .i64 a2_0, .int .i64 a2_1, .int .i64 a2_2]) (t := 58) ?hr ?_; (case hd => rfl); (case hg => rfl); (case hr => first | (go_simp; done) | (go_simp; rfl)); intro gb304 hg w8 hbox hb; have n0_ := Aside0.mk (blk_below (g := gb303) (o := .cells #[.int .u64 a1_0, .slice A1_1 l1_1.length c1_1, .int .u64 a1_2, .slice A1_3 l1_3.length c1_3] 57 (0, 0)) (by (with_reducible repeat (first | refine blk_drewN ?_ _ | refine blk_drew ?_ | refine blk_alloc ?_ _)); exact BK303.out) hb); have n1_ := Aside0.mk (below_step (by repeat (first | (with_reducible first | exact HB.out | apply below_alloc | apply pw_below_drewN | apply below_drew1 | refine below_set ?_ GE303.out) | exact HB.out)) hb); have n2_ := Aside0.mk (hbox); have n3_ := Aside0.mk ((by rw [hg]; exact (below_size (by repeat (first | (with_reducible first | exact HB.out | apply below_alloc | apply pw_below_drewN | apply below_drew1 | refine below_set ?_ GE303.out) | exact HB.out))) : w.heap.size ≤ gb304)); have n4_ := Aside0.mk ((by rw [hg]; exact (below_size (by repeat (first | (with_reducible first | exact HB.out | apply below_alloc | apply pw_below_drewN | apply below_drew1 | refine below_set ?_ GE303.out) | exact HB.out))) : w.heap.size ≤ gb304)); have n5_ := Aside0.mk ((by rw [hg]; exact Nat.ne_of_lt (blk_lt (g := gb303) (o := .cells #[.int .u64 a1_0, .slice A1_1 l1_1.length c1_1, .int .u64 a1_2, .slice A1_3 l1_3.length c1_3] 57 (0, 0)) (by (with_reducible repeat (first | refine blk_drewN ?_ _ | refine blk_drew ?_ | refine blk_alloc ?_ _)); exact BK303.out)) : gb303 ≠ gb304)); have n6_ := Aside0.mk ((by rw [hg]; exact Nat.ne_of_gt (blk_lt (g := gb303) (o := .cells #[.int .u64 a1_0, .slice A1_1 l1_1.length c1_1, .int .u64 a1_2, .slice A1_3 l1_3.length c1_3] 57 (0, 0)) (by (with_reducible repeat (first | refine blk_drewN ?_ _ | refine blk_drew ?_ | refine blk_alloc ?_ _)); exact BK303.out)) : gb304 ≠ gb303)); clear BK303; clear HB; have BK303 := n0_; have HB := n1_; have BK304 := n2_; have GW304 := n3_; have GE304 := n4_; have NB303_304 := n5_; have NB304_303 := n6_; clear n0_ n1_ n2_ n3_ n4_ n5_ n6_; clear hb hbox hg) | ((with_reducible refine gate_callee (f := 31) rfl ?_); refine goesL_ (some 17) rfl rfl Try.func31 (by kernel_rfl) rfl #[] rfl (by (try simp only [map_toArray, map_cons, map_nil]); first | done | rfl) ?_; (with_reducible refine (parolelaw04_examples.calls k  true _ A4.out).mono ?_); rintro e w9 ⟨rfl, hb⟩; refine ⟨_, rfl, ?_⟩; have n0_ := Aside0.mk (blk_below (g := gb303) (o := .cells #[.int .u64 a1_0, .slice A1_1 l1_1.length c1_1, .int .u64 a1_2, .slice A1_3 l1_3.length c1_3] 57 (0, 0)) (by (with_reducible repeat (first | refine blk_drewN ?_ _ | refine blk_drew ?_ | refine blk_alloc ?_ _)); exact BK303.out) hb); have n1_ := Aside0.mk (blk_below (g := gb304) (o := .cells #[.int .i64 a2_0, .int .i64 a2_1, .int .i64 a2_2] 58 (0, 0)) (by (with_reducible repeat (first | refine blk_drewN ?_ _ | refine blk_drew ?_ | refine blk_alloc ?_ _)); exact BK304.out) hb); have n2_ := Aside0.mk (below_step (by repeat (first | (with_reducible first | exact HB.out | apply below_alloc | apply pw_below_drewN | apply below_drew1 | refine below_set ?_ GE303.out | refine below_set ?_ GE304.out) | exact HB.out)) hb); clear BK303; clear BK304; clear HB; have BK303 := n0_; have BK304 := n1_; have HB := n2_; clear n0_ n1_ n2_; (try clear hb); (try clear hb2); (try clear hk); (try clear hi)))
  (try simp only [Act.put, setIfInBounds_toArray, set_cons_zero, set_cons_succ])
  go_cut [36] (fun v36 wc => ∃ (kq : Nat) (x36_5 : Bool), v36 = .bool x36_5 ∧ Aside0 (parolelaw04_MerkleMatchesReference.j0 kq l0 true x36_5 a1_0 l1_1 a1_2 l1_3 a2_0 a2_1 a2_2 = some r) ∧ Aside0 (kq ≤ k) ∧ Aside0 (wc.heap[gb303]? = some (.cells #[.int .u64 a1_0, (.slice A1_1 l1_1.length c1_1), .int .u64 a1_2, (.slice A1_3 l1_3.length c1_3)] 57 (0, 0))) ∧ Aside0 (wc.heap[gb304]? = some (.cells #[.int .i64 a2_0, .int .i64 a2_1, .int .i64 a2_2] 58 (0, 0))) ∧ Aside0 (Below w.heap.size w wc))
  case first =>
   have H := HC6.out
   clear HC6
   by_cases c10 : (l0.length : Int) > 60
   ·
    rw [if_pos c10] at H
    have c10b0 : decide (60 < (l0.length : Int)) = true := decide_eq_true c10
    have c10b1 : decide (60 < l0.length) = true := decide_eq_true (by omega)
    clear c10
    (first | rw [c10b0] | (simp only [i64_w, i32_w]; rw [c10b0]) | skip)
    have H' := Aside0.mk H
    clear H
    go_wp2
    go_meet
    case rel => exact ⟨_, (true), (by first | rfl | (simp; done) | (simp [*]; done)), H', ⟨by first | omega | exact Nat.le_refl _⟩, ⟨by (with_reducible repeat (first | refine blk_drewN ?_ _ | refine blk_drew ?_ | refine blk_alloc ?_ _)); exact BK303.out⟩, ⟨by (with_reducible repeat (first | refine blk_drewN ?_ _ | refine blk_drew ?_ | refine blk_alloc ?_ _)); exact BK304.out⟩, ⟨by repeat (first | (with_reducible first | exact HB.out | apply below_alloc | apply pw_below_drewN | apply below_drew1 | refine below_set ?_ GE303.out | refine below_set ?_ GE304.out) | exact HB.out)⟩⟩
   ·
    rw [if_neg c10] at H
    have c10b0 : decide (60 < (l0.length : Int)) = false := decide_eq_false c10
    have c10b1 : decide (60 < l0.length) = false := decide_eq_false (by omega)
    clear c10
    (first | rw [c10b0] | (simp only [i64_w, i32_w]; rw [c10b0]) | skip)
    by_cases c11 : (l1_1.length : Int) > 60
    ·
     rw [if_pos c11] at H
     have c11b0 : decide (60 < (l1_1.length : Int)) = true := decide_eq_true c11
     have c11b1 : decide (60 < l1_1.length) = true := decide_eq_true (by omega)
     clear c11
     have H' := Aside0.mk H
     clear H
     have hnb12 := NB303_304.out
     have hnc12 := NB304_303.out
     have hcz13_0 : w9.cell? ⟨gb303, 0, none⟩ = some (.int .u64 a1_0) := (blk_cell BK303.out 0).trans rfl
     have hcz13_1 : w9.cell? ⟨gb303, 1, none⟩ = some (.slice A1_1 l1_1.length c1_1) := (blk_cell BK303.out 1).trans rfl
     have hcz13_2 : w9.cell? ⟨gb303, 2, none⟩ = some (.int .u64 a1_2) := (blk_cell BK303.out 2).trans rfl
     have hcz13_3 : w9.cell? ⟨gb303, 3, none⟩ = some (.slice A1_3 l1_3.length c1_3) := (blk_cell BK303.out 3).trans rfl
     have hfz13_0 := blk_frozen BK303.out 0
     have hfz13_1 := blk_frozen BK303.out 1
     have hfz13_2 := blk_frozen BK303.out 2
     have hfz13_3 := blk_frozen BK303.out 3
     go_wp2
     go_meet
     case rel => exact ⟨_, (true), (by first | rfl | (simp; done) | (simp [*]; done)), H', ⟨by first | omega | exact Nat.le_refl _⟩, ⟨by (with_reducible repeat (first | refine blk_drewN ?_ _ | refine blk_drew ?_ | refine blk_alloc ?_ _)); exact BK303.out⟩, ⟨by (with_reducible repeat (first | refine blk_drewN ?_ _ | refine blk_drew ?_ | refine blk_alloc ?_ _)); exact BK304.out⟩, ⟨by repeat (first | (with_reducible first | exact HB.out | apply below_alloc | apply pw_below_drewN | apply below_drew1 | refine below_set ?_ GE303.out | refine below_set ?_ GE304.out) | exact HB.out)⟩⟩
    ·
     rw [if_neg c11] at H
     have c11b0 : decide (60 < (l1_1.length : Int)) = false := decide_eq_false c11
     have c11b1 : decide (60 < l1_1.length) = false := decide_eq_false (by omega)
     clear c11
     have H' := Aside0.mk H
     clear H
     have hnb14 := NB303_304.out
     have hnc14 := NB304_303.out
     have hcz15_0 : w9.cell? ⟨gb303, 0, none⟩ = some (.int .u64 a1_0) := (blk_cell BK303.out 0).trans rfl
     have hcz15_1 : w9.cell? ⟨gb303, 1, none⟩ = some (.slice A1_1 l1_1.length c1_1) := (blk_cell BK303.out 1).trans rfl
     have hcz15_2 : w9.cell? ⟨gb303, 2, none⟩ = some (.int .u64 a1_2) := (blk_cell BK303.out 2).trans rfl
     have hcz15_3 : w9.cell? ⟨gb303, 3, none⟩ = some (.slice A1_3 l1_3.length c1_3) := (blk_cell BK303.out 3).trans rfl
     have hfz15_0 := blk_frozen BK303.out 0
     have hfz15_1 := blk_frozen BK303.out 1
     have hfz15_2 := blk_frozen BK303.out 2
     have hfz15_3 := blk_frozen BK303.out 3
     go_wp2
     go_meet
     case rel => exact ⟨_, (decide ((l1_3.length : Int) > 60)), (by first | rfl | (simp; done) | (simp [*]; done)), H', ⟨by first | omega | exact Nat.le_refl _⟩, ⟨by (with_reducible repeat (first | refine blk_drewN ?_ _ | refine blk_drew ?_ | refine blk_alloc ?_ _)); exact BK303.out⟩, ⟨by (with_reducible repeat (first | refine blk_drewN ?_ _ | refine blk_drew ?_ | refine blk_alloc ?_ _)); exact BK304.out⟩, ⟨by repeat (first | (with_reducible first | exact HB.out | apply below_alloc | apply pw_below_drewN | apply below_drew1 | refine below_set ?_ GE303.out | refine below_set ?_ GE304.out) | exact HB.out)⟩⟩
  case rest =>
   clear HC6
   try clear c1
   try clear p2
   try clear c3
   try clear c5
   try clear c10
   try clear c10b0
   try clear c10b1
   try clear c11
   try clear c11b0
   try clear c11b1
   try clear c12
   try clear c14
   try clear hcz13_0
   try clear hcz13_1
   try clear hcz13_2
   try clear hcz13_3
   try clear hcz15_0
   try clear hcz15_1
   try clear hcz15_2
   try clear hcz15_3
   try clear hfz13_0
   try clear hfz13_1
   try clear hfz13_2
   try clear hfz13_3
   try clear hfz15_0
   try clear hfz15_1
   try clear hfz15_2
   try clear hfz15_3
   obtain ⟨kq, x36_5, rfl, HA, HJ5, BK303, BK304, HB⟩ := hcut
   cases kq with
   | zero => exact absurd HA.out (by simp [parolelaw04_MerkleMatchesReference.j0])
   | succ kj5 =>
    have H := HA.out
    clear HA
    simp only [parolelaw04_MerkleMatchesReference.j0] at H
    by_cases c16 : x36_5 = true
    ·
     subst c16
     have H1 : (some true) = some r := by rw [if_pos rfl] at H; exact H
     clear H
     have H := H1
     clear H1
     obtain rfl := Option.some.inj H
     go_wp2
     go_ret
     exact ⟨by first | rfl | (simp [errW_none, errW_some] <;> rfl) | (simp [*, errW_none, errW_some] <;> rfl), by repeat (first | (with_reducible first | exact HB.out | apply below_alloc | apply pw_below_drewN | apply below_drew1 | refine below_set ?_ GE303.out | refine below_set ?_ GE304.out) | exact HB.out)⟩
    ·
     replace c16 := Bool.eq_false_iff.mpr c16
     subst c16
     have H1 : ((merkle_Root.f l0).bind fun t306 => ((parolelaw04_open.f l0 a2_1).bind fun bt307 => ((paroleref04_Open.f kj5 l0 a2_1).bind fun bt311 => ((paroleref04_Root.f kj5 l0).bind fun t317 => (if t306 = t317 then (if bt307.2 = bt311.2 then ((paroleref04_Same.f kj5 bt307.1 bt311.1).bind fun t318 => (parolelaw04_MerkleMatchesReference.j1 kj5 l0 true a2_0 a2_1 t306 (!t318) a1_0 l1_1 a1_2 l1_3 a2_0 a2_1 a2_2 bt307.1 bt307.2)) else (parolelaw04_MerkleMatchesReference.j1 kj5 l0 true a2_0 a2_1 t306 true a1_0 l1_1 a1_2 l1_3 a2_0 a2_1 a2_2 bt307.1 bt307.2)) else (parolelaw04_MerkleMatchesReference.j1 kj5 l0 true a2_0 a2_1 t306 true a1_0 l1_1 a1_2 l1_3 a2_0 a2_1 a2_2 bt307.1 bt307.2)))))) = some r := by rw [if_neg (show ¬ (false = true) by decide)] at H; exact H
     clear H
     have H := H1
     clear H1
     replace H := Option.bind_eq_some_iff.mp H
     obtain ⟨t306, A170, H⟩ := H
     replace H : ((parolelaw04_open.f l0 a2_1).bind fun bt307 => ((paroleref04_Open.f kj5 l0 a2_1).bind fun bt311 => ((paroleref04_Root.f kj5 l0).bind fun t317 => (if t306 = t317 then (if bt307.2 = bt311.2 then ((paroleref04_Same.f kj5 bt307.1 bt311.1).bind fun t318 => (parolelaw04_MerkleMatchesReference.j1 kj5 l0 true a2_0 a2_1 t306 (!t318) a1_0 l1_1 a1_2 l1_3 a2_0 a2_1 a2_2 bt307.1 bt307.2)) else (parolelaw04_MerkleMatchesReference.j1 kj5 l0 true a2_0 a2_1 t306 true a1_0 l1_1 a1_2 l1_3 a2_0 a2_1 a2_2 bt307.1 bt307.2)) else (parolelaw04_MerkleMatchesReference.j1 kj5 l0 true a2_0 a2_1 t306 true a1_0 l1_1 a1_2 l1_3 a2_0 a2_1 a2_2 bt307.1 bt307.2))))) = some r := H
     have A17 := Aside0.mk A170
     clear A170
     replace H := Option.bind_eq_some_iff.mp H
     obtain ⟨⟨t307, t310⟩, A180, H⟩ := H
     replace H : ((paroleref04_Open.f kj5 l0 a2_1).bind fun bt311 => ((paroleref04_Root.f kj5 l0).bind fun t317 => (if t306 = t317 then (if t310 = bt311.2 then ((paroleref04_Same.f kj5 t307 bt311.1).bind fun t318 => (parolelaw04_MerkleMatchesReference.j1 kj5 l0 true a2_0 a2_1 t306 (!t318) a1_0 l1_1 a1_2 l1_3 a2_0 a2_1 a2_2 t307 t310)) else (parolelaw04_MerkleMatchesReference.j1 kj5 l0 true a2_0 a2_1 t306 true a1_0 l1_1 a1_2 l1_3 a2_0 a2_1 a2_2 t307 t310)) else (parolelaw04_MerkleMatchesReference.j1 kj5 l0 true a2_0 a2_1 t306 true a1_0 l1_1 a1_2 l1_3 a2_0 a2_1 a2_2 t307 t310)))) = some r := H
     have A18 := Aside0.mk A180
     clear A180
     replace H := Option.bind_eq_some_iff.mp H
     obtain ⟨⟨t311, t314⟩, A190, H⟩ := H
     replace H : ((paroleref04_Root.f kj5 l0).bind fun t317 => (if t306 = t317 then (if t310 = t314 then ((paroleref04_Same.f kj5 t307 t311).bind fun t318 => (parolelaw04_MerkleMatchesReference.j1 kj5 l0 true a2_0 a2_1 t306 (!t318) a1_0 l1_1 a1_2 l1_3 a2_0 a2_1 a2_2 t307 t310)) else (parolelaw04_MerkleMatchesReference.j1 kj5 l0 true a2_0 a2_1 t306 true a1_0 l1_1 a1_2 l1_3 a2_0 a2_1 a2_2 t307 t310)) else (parolelaw04_MerkleMatchesReference.j1 kj5 l0 true a2_0 a2_1 t306 true a1_0 l1_1 a1_2 l1_3 a2_0 a2_1 a2_2 t307 t310))) = some r := H
     have A19 := Aside0.mk A190
     clear A190
     have HC20 := Aside0.mk H
     clear H
     try go_wp2
     have n0_ := Aside0.mk (blk_drew BK303.out)
     have n1_ := Aside0.mk (blk_drew BK304.out)
     have n2_ := Aside0.mk (below_drew1 HB.out)
     clear BK303
     clear BK304
     clear HB
     have BK303 := n0_
     have BK304 := n1_
     have HB := n2_
     clear n0_ n1_ n2_
     refine start_ (n := 6) (S := fun w' => w'.cell? ⟨gb304, 0, none⟩ = some (.int .i64 a2_0) ∧ w'.cell? ⟨gb304, 1, none⟩ = some (.int .i64 a2_1) ∧ w'.cell? ⟨gb304, 2, none⟩ = some (.int .i64 a2_2)) (ds := []) #[false, false, false, false, false, false] (by kernel_rfl) rfl rfl ⟨(blk_cell BK304.out 0).trans rfl, (blk_cell BK304.out 1).trans rfl, (blk_cell BK304.out 2).trans rfl⟩ (fun hHeld => ?_)
     generalize wc.drew = w21 at BK303 BK304 HB hHeld ⊢
     refine pure_ (i := 0) (N := some 38) (v := ?_) (a' := ?_) (bl_14 6 1) rfl rfl (by kernel_rfl) (fun _ _ _ h => h) (Or.inl ⟨by rfl, ?_⟩) ?_ ?_; rotate_left; (· intro w'; go_simp; with_reducible rfl); rotate_left; (· simp only [Act.put, setIfInBounds_toArray, set_cons_zero, set_cons_succ, i64_w, i32_w]; rfl)
     refine pure_ (i := 2) (N := some 40) (v := ?_) (a' := ?_) (bl_14 6 5) rfl rfl (by kernel_rfl) (fun _ _ _ h => h) (Or.inl ⟨by rfl, ?_⟩) ?_ ?_; rotate_left; (· intro w'; go_simp; with_reducible rfl); rotate_left; (· simp only [Act.put, setIfInBounds_toArray, set_cons_zero, set_cons_succ, i64_w, i32_w]; rfl)
     refine take_ (i := 1) (N := some 39) (v := ?_) (a' := ?_) (bl_14 6 7) rfl rfl (by kernel_rfl) (fun _ _ _ h => h) (Or.inl ⟨by rfl, ?_⟩) hHeld ?_ ?_; rotate_left; (· rintro w' ⟨s0, s1, s2⟩; go_simp; with_reducible rfl); rotate_left; (· simp only [Act.put, setIfInBounds_toArray, set_cons_zero, set_cons_succ, i64_w, i32_w]; rfl)
     refine pure_ (i := 4) (N := some 8) (v := ?_) (a' := ?_) (bl_14 6 23) rfl rfl (by kernel_rfl) (fun _ _ _ h => h) (Or.inl ⟨by rfl, ?_⟩) ?_ ?_; rotate_left; (· intro w'; go_simp; with_reducible rfl); rotate_left; (· simp only [Act.put, setIfInBounds_toArray, set_cons_zero, set_cons_succ, i64_w, i32_w]; rfl)
     refine take_ (i := 3) (N := some 41) (v := ?_) (a' := ?_) (bl_14 6 31) rfl rfl (by kernel_rfl) (fun _ _ _ h => h) (Or.inl ⟨by rfl, ?_⟩) hHeld ?_ ?_; rotate_left; (· rintro w' ⟨s0, s1, s2⟩; go_simp; with_reducible rfl); rotate_left; (· simp only [Act.put, setIfInBounds_toArray, set_cons_zero, set_cons_succ, i64_w, i32_w]; rfl)
     refine pure_ (i := 5) (N := some 9) (v := ?_) (a' := ?_) (bl_14 6 63) rfl rfl (by kernel_rfl) (fun _ _ _ h => h) (Or.inl ⟨by rfl, ?_⟩) ?_ ?_; rotate_left; (· intro w'; go_simp; with_reducible rfl); rotate_left; (· simp only [Act.put, setIfInBounds_toArray, set_cons_zero, set_cons_succ, i64_w, i32_w]; rfl)
     refine done_ (by kernel_rfl) ?_
     go_upto_region 9 with (first | ((with_reducible refine gate_callee (f := 33) rfl ?_); refine goesL_ (some 43) rfl rfl Try.func33 (by kernel_rfl) rfl #[.slice A0 l0.length c0] rfl (by (try simp only [map_toArray, map_cons, map_nil]); first | done | rfl) ?_; (with_reducible refine (merkle_Root.calls _ _ l0 t306 _ ?side1 ?side2 A17.out).mono ?_); (case side1 => repeat (first | exact (Kd.C_below HR0.out HB.out) | (with_reducible refine Kd.C_alloc ?_ _) | (with_reducible refine Kd.C_drewN ?_ _) | (with_reducible refine Kd.C_drew ?_))); (case side2 => exact HC0.out); rintro e w' ⟨rfl, ⟨nd, rfl⟩⟩; refine ⟨_, rfl, ?_⟩; (try (rw [drewN_self w21]; generalize hq_ : World.drewN w21 _ = w21; have n0_ : Aside0 (w21.heap[gb303]? = some (.cells #[.int .u64 a1_0, .slice A1_1 l1_1.length c1_1, .int .u64 a1_2, .slice A1_3 l1_3.length c1_3] 57 (0, 0))) := ⟨by rw [← hq_]; exact (by (with_reducible repeat (first | refine blk_drewN ?_ _ | refine blk_drew ?_ | refine blk_alloc ?_ _)); exact BK303.out)⟩; have n1_ : Aside0 (w21.heap[gb304]? = some (.cells #[.int .i64 a2_0, .int .i64 a2_1, .int .i64 a2_2] 58 (0, 0))) := ⟨by rw [← hq_]; exact (by (with_reducible repeat (first | refine blk_drewN ?_ _ | refine blk_drew ?_ | refine blk_alloc ?_ _)); exact BK304.out)⟩; have n2_ : Aside0 (Below w.heap.size w w21) := ⟨by rw [← hq_]; exact (by repeat (first | (with_reducible first | exact HB.out | apply below_alloc | apply pw_below_drewN | apply below_drew1 | refine below_set ?_ GE303.out | refine below_set ?_ GE304.out) | exact HB.out))⟩; clear BK303 BK304 HB hq_; have BK303 := n0_; have BK304 := n1_; have HB := n2_; clear n0_ n1_ n2_))) | ((with_reducible refine gate_callee (f := 34) rfl ?_); refine goesL_ (some 46) rfl rfl Try.func34 (by kernel_rfl) rfl #[.slice A0 l0.length c0, .int .i64 a2_1] rfl (by (try simp only [map_toArray, map_cons, map_nil]); first | done | rfl) ?_; (with_reducible refine (parolelaw04_open.calls _ _ l0 a2_1 t307 t310 _ ?side1 ?side2 A18.out).mono ?_); (case side1 => repeat (first | exact (Kd.C_below HR0.out HB.out) | (with_reducible refine Kd.C_alloc ?_ _) | (with_reducible refine Kd.C_drewN ?_ _) | (with_reducible refine Kd.C_drew ?_))); (case side2 => exact HC0.out); rintro e w22 ⟨v308, rfl, ho0, hb⟩; refine ⟨_, rfl, ?_⟩; have n0_ := Aside0.mk (Kd.R_lower ho0 (below_size (by repeat (first | (with_reducible first | exact HB.out | apply below_alloc | apply pw_below_drewN | apply below_drew1 | refine below_set ?_ GE303.out | refine below_set ?_ GE304.out) | exact HB.out)))); have n1_ := Aside0.mk (blk_below (g := gb303) (o := .cells #[.int .u64 a1_0, .slice A1_1 l1_1.length c1_1, .int .u64 a1_2, .slice A1_3 l1_3.length c1_3] 57 (0, 0)) (by (with_reducible repeat (first | refine blk_drewN ?_ _ | refine blk_drew ?_ | refine blk_alloc ?_ _)); exact BK303.out) hb); have n2_ := Aside0.mk (blk_below (g := gb304) (o := .cells #[.int .i64 a2_0, .int .i64 a2_1, .int .i64 a2_2] 58 (0, 0)) (by (with_reducible repeat (first | refine blk_drewN ?_ _ | refine blk_drew ?_ | refine blk_alloc ?_ _)); exact BK304.out) hb); have n3_ := Aside0.mk (below_step (by repeat (first | (with_reducible first | exact HB.out | apply below_alloc | apply pw_below_drewN | apply below_drew1 | refine below_set ?_ GE303.out | refine below_set ?_ GE304.out) | exact HB.out)) hb); clear BK303; clear BK304; clear HB; have HO309 := n0_; have BK303 := n1_; have BK304 := n2_; have HB := n3_; clear n0_ n1_ n2_ n3_; (try clear hb); (try clear hb2); (try clear hk); (try clear hi); (try clear ho0)) | ((with_reducible refine gate_callee (f := 37) rfl ?_); refine goesL_ (some 49) rfl rfl Try.func37 (by kernel_rfl) rfl #[.slice A0 l0.length c0, .int .i64 a2_1] rfl (by (try simp only [map_toArray, map_cons, map_nil]); first | done | rfl) ?_; (with_reducible refine (paroleref04_Open.calls kj5 _ _ l0 a2_1 t311 t314 _ ?side1 ?side2 A19.out).mono ?_); (case side1 => repeat (first | exact (Kd.C_below HR0.out HB.out) | (with_reducible refine Kd.C_alloc ?_ _) | (with_reducible refine Kd.C_drewN ?_ _) | (with_reducible refine Kd.C_drew ?_))); (case side2 => exact HC0.out); rintro e w23 ⟨v312, rfl, ho0, hb⟩; refine ⟨_, rfl, ?_⟩; have n0_ := Aside0.mk (Kd.R_elder' (by (with_reducible repeat (first | apply Kd.R_alloc | apply Kd.R_drewN | apply Kd.R_drew)); exact HO309.out) (Kd.R_base ho0) hb); have n1_ := Aside0.mk (Kd.R_lower (Kd.R_new' ho0 (Kd.R_lt (by (with_reducible repeat (first | apply Kd.R_alloc | apply Kd.R_drewN | apply Kd.R_drew)); exact HO309.out))) (below_size (by repeat (first | (with_reducible first | exact HB.out | apply below_alloc | apply pw_below_drewN | apply below_drew1 | refine below_set ?_ GE303.out | refine below_set ?_ GE304.out) | exact HB.out)))); have n2_ := Aside0.mk (blk_below (g := gb303) (o := .cells #[.int .u64 a1_0, .slice A1_1 l1_1.length c1_1, .int .u64 a1_2, .slice A1_3 l1_3.length c1_3] 57 (0, 0)) (by (with_reducible repeat (first | refine blk_drewN ?_ _ | refine blk_drew ?_ | refine blk_alloc ?_ _)); exact BK303.out) hb); have n3_ := Aside0.mk (blk_below (g := gb304) (o := .cells #[.int .i64 a2_0, .int .i64 a2_1, .int .i64 a2_2] 58 (0, 0)) (by (with_reducible repeat (first | refine blk_drewN ?_ _ | refine blk_drew ?_ | refine blk_alloc ?_ _)); exact BK304.out) hb); have n4_ := Aside0.mk (below_step (by repeat (first | (with_reducible first | exact HB.out | apply below_alloc | apply pw_below_drewN | apply below_drew1 | refine below_set ?_ GE303.out | refine below_set ?_ GE304.out) | exact HB.out)) hb); clear HO309; clear BK303; clear BK304; clear HB; have HO309 := n0_; have HO313 := n1_; have BK303 := n2_; have BK304 := n3_; have HB := n4_; clear n0_ n1_ n2_ n3_ n4_; (try clear hb); (try clear hb2); (try clear hk); (try clear hi); (try clear ho0)) | ((with_reducible refine gate_dst (N := 11) rfl ?_); (try (refine gate_guard (by rfl) ?_; dsimp only)); refine box_event ?hg (N := 11) ?hd (cs := #[.slice none 0 0, .int .i64 0]) (t := 46) ?hr ?_; (case hd => rfl); (case hg => rfl); (case hr => first | (go_simp; done) | (go_simp; rfl)); intro gb315 hg w24 hbox hb; have n0_ := Aside0.mk (Kd.R_below (by (with_reducible repeat (first | apply Kd.R_alloc | apply Kd.R_drewN | apply Kd.R_drew)); exact HO309.out) hb); have n1_ := Aside0.mk (Kd.R_below (by (with_reducible repeat (first | apply Kd.R_alloc | apply Kd.R_drewN | apply Kd.R_drew)); exact HO313.out) hb); have n2_ := Aside0.mk (blk_below (g := gb303) (o := .cells #[.int .u64 a1_0, .slice A1_1 l1_1.length c1_1, .int .u64 a1_2, .slice A1_3 l1_3.length c1_3] 57 (0, 0)) (by (with_reducible repeat (first | refine blk_drewN ?_ _ | refine blk_drew ?_ | refine blk_alloc ?_ _)); exact BK303.out) hb); have n3_ := Aside0.mk (blk_below (g := gb304) (o := .cells #[.int .i64 a2_0, .int .i64 a2_1, .int .i64 a2_2] 58 (0, 0)) (by (with_reducible repeat (first | refine blk_drewN ?_ _ | refine blk_drew ?_ | refine blk_alloc ?_ _)); exact BK304.out) hb); have n4_ := Aside0.mk (below_step (by repeat (first | (with_reducible first | exact HB.out | apply below_alloc | apply pw_below_drewN | apply below_drew1 | refine below_set ?_ GE303.out | refine below_set ?_ GE304.out) | exact HB.out)) hb); have n5_ := Aside0.mk (hbox); have n6_ := Aside0.mk ((by rw [hg]; exact (below_size (by repeat (first | (with_reducible first | exact HB.out | apply below_alloc | apply pw_below_drewN | apply below_drew1 | refine below_set ?_ GE303.out | refine below_set ?_ GE304.out) | exact HB.out))) : w.heap.size ≤ gb315)); have n7_ := Aside0.mk ((by rw [hg]; exact (below_size (by repeat (first | (with_reducible first | exact HB.out | apply below_alloc | apply pw_below_drewN | apply below_drew1 | refine below_set ?_ GE303.out | refine below_set ?_ GE304.out) | exact HB.out))) : w.heap.size ≤ gb315)); have n8_ := Aside0.mk ((by rw [hg]; exact Nat.ne_of_lt (blk_lt (g := gb303) (o := .cells #[.int .u64 a1_0, .slice A1_1 l1_1.length c1_1, .int .u64 a1_2, .slice A1_3 l1_3.length c1_3] 57 (0, 0)) (by (with_reducible repeat (first | refine blk_drewN ?_ _ | refine blk_drew ?_ | refine blk_alloc ?_ _)); exact BK303.out)) : gb303 ≠ gb315)); have n9_ := Aside0.mk ((by rw [hg]; exact Nat.ne_of_gt (blk_lt (g := gb303) (o := .cells #[.int .u64 a1_0, .slice A1_1 l1_1.length c1_1, .int .u64 a1_2, .slice A1_3 l1_3.length c1_3] 57 (0, 0)) (by (with_reducible repeat (first | refine blk_drewN ?_ _ | refine blk_drew ?_ | refine blk_alloc ?_ _)); exact BK303.out)) : gb315 ≠ gb303)); have n10_ := Aside0.mk ((by rw [hg]; exact Nat.ne_of_lt (blk_lt (g := gb304) (o := .cells #[.int .i64 a2_0, .int .i64 a2_1, .int .i64 a2_2] 58 (0, 0)) (by (with_reducible repeat (first | refine blk_drewN ?_ _ | refine blk_drew ?_ | refine blk_alloc ?_ _)); exact BK304.out)) : gb304 ≠ gb315)); have n11_ := Aside0.mk ((by rw [hg]; exact Nat.ne_of_gt (blk_lt (g := gb304) (o := .cells #[.int .i64 a2_0, .int .i64 a2_1, .int .i64 a2_2] 58 (0, 0)) (by (with_reducible repeat (first | refine blk_drewN ?_ _ | refine blk_drew ?_ | refine blk_alloc ?_ _)); exact BK304.out)) : gb315 ≠ gb304)); clear HO309; clear HO313; clear BK303; clear BK304; clear HB; have HO309 := n0_; have HO313 := n1_; have BK303 := n2_; have BK304 := n3_; have HB := n4_; have BK315 := n5_; have GW315 := n6_; have GE315 := n7_; have NB303_315 := n8_; have NB315_303 := n9_; have NB304_315 := n10_; have NB315_304 := n11_; clear n0_ n1_ n2_ n3_ n4_ n5_ n6_ n7_ n8_ n9_ n10_ n11_; clear hb hbox hg) | ((with_reducible refine gate_dst (N := 12) rfl ?_); (try (refine gate_guard (by rfl) ?_; dsimp only)); refine box_event ?hg (N := 12) ?hd (cs := #[.slice none 0 0, .int .i64 0]) (t := 46) ?hr ?_; (case hd => rfl); (case hg => rfl); (case hr => first | (go_simp; done) | (go_simp; rfl)); intro gb316 hg w25 hbox hb; have n0_ := Aside0.mk (Kd.R_below (by (with_reducible repeat (first | apply Kd.R_alloc | apply Kd.R_drewN | apply Kd.R_drew)); exact HO309.out) hb); have n1_ := Aside0.mk (Kd.R_below (by (with_reducible repeat (first | apply Kd.R_alloc | apply Kd.R_drewN | apply Kd.R_drew)); exact HO313.out) hb); have n2_ := Aside0.mk (blk_below (g := gb303) (o := .cells #[.int .u64 a1_0, .slice A1_1 l1_1.length c1_1, .int .u64 a1_2, .slice A1_3 l1_3.length c1_3] 57 (0, 0)) (by (with_reducible repeat (first | refine blk_drewN ?_ _ | refine blk_drew ?_ | refine blk_alloc ?_ _)); exact BK303.out) hb); have n3_ := Aside0.mk (blk_below (g := gb304) (o := .cells #[.int .i64 a2_0, .int .i64 a2_1, .int .i64 a2_2] 58 (0, 0)) (by (with_reducible repeat (first | refine blk_drewN ?_ _ | refine blk_drew ?_ | refine blk_alloc ?_ _)); exact BK304.out) hb); have n4_ := Aside0.mk (blk_below (g := gb315) (o := .cells #[.slice none 0 0, .int .i64 0] 46 (0, 0)) (by (with_reducible repeat (first | refine blk_drewN ?_ _ | refine blk_drew ?_ | refine blk_alloc ?_ _)); exact BK315.out) hb); have n5_ := Aside0.mk (below_step (by repeat (first | (with_reducible first | exact HB.out | apply below_alloc | apply pw_below_drewN | apply below_drew1 | refine below_set ?_ GE303.out | refine below_set ?_ GE304.out | refine below_set ?_ GE315.out) | exact HB.out)) hb); have n6_ := Aside0.mk (hbox); have n7_ := Aside0.mk ((by rw [hg]; exact (below_size (by repeat (first | (with_reducible first | exact HB.out | apply below_alloc | apply pw_below_drewN | apply below_drew1 | refine below_set ?_ GE303.out | refine below_set ?_ GE304.out | refine below_set ?_ GE315.out) | exact HB.out))) : w.heap.size ≤ gb316)); have n8_ := Aside0.mk ((by rw [hg]; exact (below_size (by repeat (first | (with_reducible first | exact HB.out | apply below_alloc | apply pw_below_drewN | apply below_drew1 | refine below_set ?_ GE303.out | refine below_set ?_ GE304.out | refine below_set ?_ GE315.out) | exact HB.out))) : w.heap.size ≤ gb316)); have n9_ := Aside0.mk ((by rw [hg]; exact Nat.ne_of_lt (blk_lt (g := gb303) (o := .cells #[.int .u64 a1_0, .slice A1_1 l1_1.length c1_1, .int .u64 a1_2, .slice A1_3 l1_3.length c1_3] 57 (0, 0)) (by (with_reducible repeat (first | refine blk_drewN ?_ _ | refine blk_drew ?_ | refine blk_alloc ?_ _)); exact BK303.out)) : gb303 ≠ gb316)); have n10_ := Aside0.mk ((by rw [hg]; exact Nat.ne_of_gt (blk_lt (g := gb303) (o := .cells #[.int .u64 a1_0, .slice A1_1 l1_1.length c1_1, .int .u64 a1_2, .slice A1_3 l1_3.length c1_3] 57 (0, 0)) (by (with_reducible repeat (first | refine blk_drewN ?_ _ | refine blk_drew ?_ | refine blk_alloc ?_ _)); exact BK303.out)) : gb316 ≠ gb303)); have n11_ := Aside0.mk ((by rw [hg]; exact Nat.ne_of_lt (blk_lt (g := gb304) (o := .cells #[.int .i64 a2_0, .int .i64 a2_1, .int .i64 a2_2] 58 (0, 0)) (by (with_reducible repeat (first | refine blk_drewN ?_ _ | refine blk_drew ?_ | refine blk_alloc ?_ _)); exact BK304.out)) : gb304 ≠ gb316)); have n12_ := Aside0.mk ((by rw [hg]; exact Nat.ne_of_gt (blk_lt (g := gb304) (o := .cells #[.int .i64 a2_0, .int .i64 a2_1, .int .i64 a2_2] 58 (0, 0)) (by (with_reducible repeat (first | refine blk_drewN ?_ _ | refine blk_drew ?_ | refine blk_alloc ?_ _)); exact BK304.out)) : gb316 ≠ gb304)); have n13_ := Aside0.mk ((by rw [hg]; exact Nat.ne_of_lt (blk_lt (g := gb315) (o := .cells #[.slice none 0 0, .int .i64 0] 46 (0, 0)) (by (with_reducible repeat (first | refine blk_drewN ?_ _ | refine blk_drew ?_ | refine blk_alloc ?_ _)); exact BK315.out)) : gb315 ≠ gb316)); have n14_ := Aside0.mk ((by rw [hg]; exact Nat.ne_of_gt (blk_lt (g := gb315) (o := .cells #[.slice none 0 0, .int .i64 0] 46 (0, 0)) (by (with_reducible repeat (first | refine blk_drewN ?_ _ | refine blk_drew ?_ | refine blk_alloc ?_ _)); exact BK315.out)) : gb316 ≠ gb315)); clear HO309; clear HO313; clear BK303; clear BK304; clear BK315; clear HB; have HO309 := n0_; have HO313 := n1_; have BK303 := n2_; have BK304 := n3_; have BK315 := n4_; have HB := n5_; have BK316 := n6_; have GW316 := n7_; have GE316 := n8_; have NB303_316 := n9_; have NB316_303 := n10_; have NB304_316 := n11_; have NB316_304 := n12_; have NB315_316 := n13_; have NB316_315 := n14_; clear n0_ n1_ n2_ n3_ n4_ n5_ n6_ n7_ n8_ n9_ n10_ n11_ n12_ n13_ n14_; clear hb hbox hg; obtain ⟨Ao26, co26, eo26⟩ := Kd.R_slice HO309.out; subst eo26; have hnb27 := NB315_303.out; have hnc27 := NB303_315.out; have hnb28 := NB315_304.out; have hnc28 := NB304_315.out; have hnb29 := NB315_316.out; have hnc29 := NB316_315.out; have hcz30_0 : w25.cell? ⟨gb315, 0, none⟩ = some (.slice none 0 0) := (blk_cell BK315.out 0).trans rfl; have hcz30_1 : w25.cell? ⟨gb315, 1, none⟩ = some (.int .i64 0) := (blk_cell BK315.out 1).trans rfl; have hfz30_0 := blk_frozen BK315.out 0; have hfz30_1 := blk_frozen BK315.out 1; obtain ⟨Ao31, co31, eo31⟩ := Kd.R_slice HO313.out; subst eo31; have hnb32 := NB316_303.out; have hnc32 := NB303_316.out; have hnb33 := NB316_304.out; have hnc33 := NB304_316.out; have hcz34_0 : w25.cell? ⟨gb316, 0, none⟩ = some (.slice none 0 0) := (blk_cell BK316.out 0).trans rfl; have hcz34_1 : w25.cell? ⟨gb316, 1, none⟩ = some (.int .i64 0) := (blk_cell BK316.out 1).trans rfl; have hfz34_0 := blk_frozen BK316.out 0; have hfz34_1 := blk_frozen BK316.out 1))
     (try simp only [Act.put, setIfInBounds_toArray, set_cons_zero, set_cons_succ])
     go_cut [68] (fun v68 wc => ∃ (kq : Nat) (x68_19 : Bool), v68 = .bool x68_19 ∧ Aside0 (parolelaw04_MerkleMatchesReference.j1 kq l0 true a2_0 a2_1 t306 x68_19 a1_0 l1_1 a1_2 l1_3 a2_0 a2_1 a2_2 t307 t310 = some r) ∧ Aside0 (kq ≤ kj5) ∧ Aside0 (Kd.R (Kd.int .u64) 22 wc w.heap.size (fun k_ => some k_ ≠ ((.slice Ao31 t311.length co31) : Value).ownBlock) (.slice Ao26 t307.length co26) t307) ∧ Aside0 (Kd.R (Kd.int .u64) 22 wc w.heap.size (fun k_ => some k_ ≠ ((.slice Ao26 t307.length co26) : Value).ownBlock) (.slice Ao31 t311.length co31) t311) ∧ Aside0 (wc.heap[gb303]? = some (.cells #[.int .u64 a1_0, (.slice A1_1 l1_1.length c1_1), .int .u64 a1_2, (.slice A1_3 l1_3.length c1_3)] 57 (0, 0))) ∧ Aside0 (wc.heap[gb304]? = some (.cells #[.int .i64 a2_0, .int .i64 a2_1, .int .i64 a2_2] 58 (0, 0))) ∧ Aside0 (wc.heap[gb315]? = some (.cells #[(.slice Ao26 t307.length co26), .int .i64 t310] 46 (0, 0))) ∧ Aside0 (wc.heap[gb316]? = some (.cells #[(.slice Ao31 t311.length co31), .int .i64 t314] 46 (0, 0))) ∧ Aside0 (Below w.heap.size w wc))
     case first =>
      have H := HC20.out
      clear HC20
      replace H := Option.bind_eq_some_iff.mp H
      obtain ⟨t317, A350, H⟩ := H
      replace H : (if t306 = t317 then (if t310 = t314 then ((paroleref04_Same.f kj5 t307 t311).bind fun t318 => (parolelaw04_MerkleMatchesReference.j1 kj5 l0 true a2_0 a2_1 t306 (!t318) a1_0 l1_1 a1_2 l1_3 a2_0 a2_1 a2_2 t307 t310)) else (parolelaw04_MerkleMatchesReference.j1 kj5 l0 true a2_0 a2_1 t306 true a1_0 l1_1 a1_2 l1_3 a2_0 a2_1 a2_2 t307 t310)) else (parolelaw04_MerkleMatchesReference.j1 kj5 l0 true a2_0 a2_1 t306 true a1_0 l1_1 a1_2 l1_3 a2_0 a2_1 a2_2 t307 t310)) = some r := H
      have A35 := Aside0.mk A350
      clear A350
      by_cases c36 : t306 = t317
      ·
       rw [if_pos c36] at H
       have c36b0 : (t306 == t317) = true := beq_iff_eq.mpr c36
       have c36b1 : (t306 != t317) = false := bne_eq_false_iff_eq.mpr c36
       clear c36
       (first | rw [c36b0] | (simp only [i64_w, i32_w]; rw [c36b0]) | skip)
       by_cases c37 : t310 = t314
       ·
        rw [if_pos c37] at H
        have c37b0 : (t310 == t314) = true := beq_iff_eq.mpr c37
        have c37b1 : (t310 != t314) = false := bne_eq_false_iff_eq.mpr c37
        clear c37
        replace H := Option.bind_eq_some_iff.mp H
        obtain ⟨t318, A380, H⟩ := H
        replace H : (parolelaw04_MerkleMatchesReference.j1 kj5 l0 true a2_0 a2_1 t306 (!t318) a1_0 l1_1 a1_2 l1_3 a2_0 a2_1 a2_2 t307 t310) = some r := H
        have A38 := Aside0.mk A380
        clear A380
        have H' := Aside0.mk H
        clear H
        go_wp2_with (first | ((with_reducible refine gate_callee (f := 38) rfl ?_); refine goesL_ (some 52) rfl rfl Try.func38 (by kernel_rfl) rfl #[.slice A0 l0.length c0] rfl (by (try simp only [map_toArray, map_cons, map_nil]); first | done | rfl) ?_; (with_reducible refine (paroleref04_Root.calls kj5 _ _ l0 t317 _ ?side1 ?side2 A35.out).mono ?_); (case side1 => exact Kd.C_below HR0.out (by repeat (first | (with_reducible first | exact HB.out | apply below_alloc | apply pw_below_drewN | apply below_drew1 | refine below_set ?_ GE303.out | refine below_set ?_ GE304.out | refine below_set ?_ GE315.out | refine below_set ?_ GE316.out) | exact HB.out))); (case side2 => exact HC0.out); rintro e w39 ⟨rfl, hb⟩; refine ⟨_, rfl, ?_⟩; have n0_ := Aside0.mk (Kd.R_below (by (with_reducible repeat (first | apply Kd.R_alloc | apply Kd.R_drewN | apply Kd.R_drew)); exact (Kd.R_mono (Kd.R_mono (Kd.R_far (p := ⟨gb316, 1, none⟩) (Kd.R_far (p := ⟨gb316, 0, none⟩) (Kd.R_far (p := ⟨gb315, 1, none⟩) (Kd.R_far (p := ⟨gb315, 0, none⟩) (Kd.R_types (Kd.R_types HO309.out BK315.out (by decide)) BK316.out (by decide)) (fun _ hk => by first | exact hk.1.2 | exact hk | exact ⟨hk.2, hk.1⟩ | simp_all) (.slice Ao26 t307.length co26)) (fun _ hk => by first | exact hk.1.2 | exact hk | exact ⟨hk.2, hk.1⟩ | simp_all) (.int .i64 t310)) (fun _ hk => by first | exact hk.2 | exact hk | exact ⟨hk.2, hk.1⟩ | simp_all) (.slice Ao31 t311.length co31)) (fun _ hk => by first | exact hk.2 | exact hk | exact ⟨hk.2, hk.1⟩ | simp_all) (.int .i64 t314)) (fun _ h_ => h_.1)) (fun _ h_ => h_.1))) hb); have n1_ := Aside0.mk (Kd.R_below (by (with_reducible repeat (first | apply Kd.R_alloc | apply Kd.R_drewN | apply Kd.R_drew)); exact (Kd.R_mono (Kd.R_mono (Kd.R_far (p := ⟨gb316, 1, none⟩) (Kd.R_far (p := ⟨gb316, 0, none⟩) (Kd.R_far (p := ⟨gb315, 1, none⟩) (Kd.R_far (p := ⟨gb315, 0, none⟩) (Kd.R_types (Kd.R_types HO313.out BK315.out (by decide)) BK316.out (by decide)) (fun _ hk => by first | exact hk.1.2 | exact hk | exact ⟨hk.2, hk.1⟩ | simp_all) (.slice Ao26 t307.length co26)) (fun _ hk => by first | exact hk.1.2 | exact hk | exact ⟨hk.2, hk.1⟩ | simp_all) (.int .i64 t310)) (fun _ hk => by first | exact hk.2 | exact hk | exact ⟨hk.2, hk.1⟩ | simp_all) (.slice Ao31 t311.length co31)) (fun _ hk => by first | exact hk.2 | exact hk | exact ⟨hk.2, hk.1⟩ | simp_all) (.int .i64 t314)) (fun _ h_ => h_.1)) (fun _ h_ => h_.1))) hb); have n2_ := Aside0.mk (blk_below (g := gb303) (o := .cells #[.int .u64 a1_0, .slice A1_1 l1_1.length c1_1, .int .u64 a1_2, .slice A1_3 l1_3.length c1_3] 57 (0, 0)) (by (with_reducible repeat (first | refine blk_drewN ?_ _ | refine blk_drew ?_ | refine blk_alloc ?_ _)); refine blk_far ?_ NB303_316.out _; (with_reducible repeat (first | refine blk_drewN ?_ _ | refine blk_drew ?_ | refine blk_alloc ?_ _)); refine blk_far ?_ NB303_316.out _; (with_reducible repeat (first | refine blk_drewN ?_ _ | refine blk_drew ?_ | refine blk_alloc ?_ _)); refine blk_far ?_ NB303_315.out _; (with_reducible repeat (first | refine blk_drewN ?_ _ | refine blk_drew ?_ | refine blk_alloc ?_ _)); refine blk_far ?_ NB303_315.out _; (with_reducible repeat (first | refine blk_drewN ?_ _ | refine blk_drew ?_ | refine blk_alloc ?_ _)); exact BK303.out) hb); have n3_ := Aside0.mk (blk_below (g := gb304) (o := .cells #[.int .i64 a2_0, .int .i64 a2_1, .int .i64 a2_2] 58 (0, 0)) (by (with_reducible repeat (first | refine blk_drewN ?_ _ | refine blk_drew ?_ | refine blk_alloc ?_ _)); refine blk_far ?_ NB304_316.out _; (with_reducible repeat (first | refine blk_drewN ?_ _ | refine blk_drew ?_ | refine blk_alloc ?_ _)); refine blk_far ?_ NB304_316.out _; (with_reducible repeat (first | refine blk_drewN ?_ _ | refine blk_drew ?_ | refine blk_alloc ?_ _)); refine blk_far ?_ NB304_315.out _; (with_reducible repeat (first | refine blk_drewN ?_ _ | refine blk_drew ?_ | refine blk_alloc ?_ _)); refine blk_far ?_ NB304_315.out _; (with_reducible repeat (first | refine blk_drewN ?_ _ | refine blk_drew ?_ | refine blk_alloc ?_ _)); exact BK304.out) hb); have n4_ := Aside0.mk (blk_below (g := gb315) (o := .cells #[.slice Ao26 t307.length co26, .int .i64 t310] 46 (0, 0)) (by (with_reducible repeat (first | refine blk_drewN ?_ _ | refine blk_drew ?_ | refine blk_alloc ?_ _)); refine blk_far ?_ NB315_316.out _; (with_reducible repeat (first | refine blk_drewN ?_ _ | refine blk_drew ?_ | refine blk_alloc ?_ _)); refine blk_far ?_ NB315_316.out _; (with_reducible repeat (first | refine blk_drewN ?_ _ | refine blk_drew ?_ | refine blk_alloc ?_ _)); refine blk_put (cs := #[.slice Ao26 t307.length co26, .int .i64 0]) ?_ 1 _ rfl; (with_reducible repeat (first | refine blk_drewN ?_ _ | refine blk_drew ?_ | refine blk_alloc ?_ _)); refine blk_put (cs := #[.slice none 0 0, .int .i64 0]) ?_ 0 _ rfl; (with_reducible repeat (first | refine blk_drewN ?_ _ | refine blk_drew ?_ | refine blk_alloc ?_ _)); exact BK315.out) hb); have n5_ := Aside0.mk (blk_below (g := gb316) (o := .cells #[.slice Ao31 t311.length co31, .int .i64 t314] 46 (0, 0)) (by (with_reducible repeat (first | refine blk_drewN ?_ _ | refine blk_drew ?_ | refine blk_alloc ?_ _)); refine blk_put (cs := #[.slice Ao31 t311.length co31, .int .i64 0]) ?_ 1 _ rfl; (with_reducible repeat (first | refine blk_drewN ?_ _ | refine blk_drew ?_ | refine blk_alloc ?_ _)); refine blk_put (cs := #[.slice none 0 0, .int .i64 0]) ?_ 0 _ rfl; (with_reducible repeat (first | refine blk_drewN ?_ _ | refine blk_drew ?_ | refine blk_alloc ?_ _)); refine blk_far ?_ NB316_315.out _; (with_reducible repeat (first | refine blk_drewN ?_ _ | refine blk_drew ?_ | refine blk_alloc ?_ _)); refine blk_far ?_ NB316_315.out _; (with_reducible repeat (first | refine blk_drewN ?_ _ | refine blk_drew ?_ | refine blk_alloc ?_ _)); exact BK316.out) hb); have n6_ := Aside0.mk (below_step (by repeat (first | (with_reducible first | exact HB.out | apply below_alloc | apply pw_below_drewN | apply below_drew1 | refine below_set ?_ GE303.out | refine below_set ?_ GE304.out | refine below_set ?_ GE315.out | refine below_set ?_ GE316.out) | exact HB.out)) hb); clear HO309; clear HO313; clear BK303; clear BK304; clear BK315; clear BK316; clear HB; have HO309 := n0_; have HO313 := n1_; have BK303 := n2_; have BK304 := n3_; have BK315 := n4_; have BK316 := n5_; have HB := n6_; clear n0_ n1_ n2_ n3_ n4_ n5_ n6_; (try clear hb); (try clear hb2); (try clear hk); (try clear hi); have hnb40 := NB315_303.out; have hnc40 := NB303_315.out; have hnb41 := NB315_304.out; have hnc41 := NB304_315.out; have hnb42 := NB315_316.out; have hnc42 := NB316_315.out; have hcz43_0 : w39.cell? ⟨gb315, 0, none⟩ = some (.slice Ao26 t307.length co26) := (blk_cell BK315.out 0).trans rfl; have hcz43_1 : w39.cell? ⟨gb315, 1, none⟩ = some (.int .i64 t310) := (blk_cell BK315.out 1).trans rfl; have hfz43_0 := blk_frozen BK315.out 0; have hfz43_1 := blk_frozen BK315.out 1; have hnb44 := NB316_303.out; have hnc44 := NB303_316.out; have hnb45 := NB316_304.out; have hnc45 := NB304_316.out; have hcz46_0 : w39.cell? ⟨gb316, 0, none⟩ = some (.slice Ao31 t311.length co31) := (blk_cell BK316.out 0).trans rfl; have hcz46_1 : w39.cell? ⟨gb316, 1, none⟩ = some (.int .i64 t314) := (blk_cell BK316.out 1).trans rfl; have hfz46_0 := blk_frozen BK316.out 0; have hfz46_1 := blk_frozen BK316.out 1) | (go_at_call 36; (with_reducible refine (paroleref04_Same.calls kj5 _ _ t307 _ _ t311 t318 _ ?side1 ?side2 ?side3 ?side4 A38.out).mono ?_); (case side1 => repeat (first | exact (Kd.R_reads' HO309.out).2.2 | (with_reducible refine Kd.C_alloc ?_ _) | (with_reducible refine Kd.C_drewN ?_ _) | (with_reducible refine Kd.C_drew ?_))); (case side2 => exact (Kd.R_reads' HO309.out).2.1); (case side3 => repeat (first | exact (Kd.R_reads' HO313.out).2.2 | (with_reducible refine Kd.C_alloc ?_ _) | (with_reducible refine Kd.C_drewN ?_ _) | (with_reducible refine Kd.C_drew ?_))); (case side4 => exact (Kd.R_reads' HO313.out).2.1); rintro e w' ⟨rfl, ⟨nd, rfl⟩⟩))
        go_meet
        case rel => exact ⟨_, (!t318), (by first | rfl | (simp; done) | (simp [*]; done)), H', ⟨by have := HJ5.out; first | omega | exact Nat.le_refl _⟩, ⟨by (with_reducible repeat (first | apply Kd.R_alloc | apply Kd.R_drewN | apply Kd.R_drew)); exact Kd.R_mono HO309.out (fun _ hk => by first | exact hk.2 | exact hk | exact ⟨hk.2, hk.1⟩ | simp_all)⟩, ⟨by (with_reducible repeat (first | apply Kd.R_alloc | apply Kd.R_drewN | apply Kd.R_drew)); exact Kd.R_mono HO313.out (fun _ hk => by first | exact hk.2 | exact hk | exact ⟨hk.2, hk.1⟩ | simp_all)⟩, ⟨by (with_reducible repeat (first | refine blk_drewN ?_ _ | refine blk_drew ?_ | refine blk_alloc ?_ _)); exact BK303.out⟩, ⟨by (with_reducible repeat (first | refine blk_drewN ?_ _ | refine blk_drew ?_ | refine blk_alloc ?_ _)); exact BK304.out⟩, ⟨by (with_reducible repeat (first | refine blk_drewN ?_ _ | refine blk_drew ?_ | refine blk_alloc ?_ _)); exact BK315.out⟩, ⟨by (with_reducible repeat (first | refine blk_drewN ?_ _ | refine blk_drew ?_ | refine blk_alloc ?_ _)); exact BK316.out⟩, ⟨by repeat (first | (with_reducible first | exact HB.out | apply below_alloc | apply pw_below_drewN | apply below_drew1 | refine below_set ?_ GE303.out | refine below_set ?_ GE304.out | refine below_set ?_ GE315.out | refine below_set ?_ GE316.out) | exact HB.out)⟩⟩
       ·
        rw [if_neg c37] at H
        have c37b0 : (t310 == t314) = false := beq_eq_false_iff_ne.mpr c37
        have c37b1 : (t310 != t314) = true := bne_iff_ne.mpr c37
        have H' := Aside0.mk H
        clear H
        go_wp2_with (first | ((with_reducible refine gate_callee (f := 38) rfl ?_); refine goesL_ (some 52) rfl rfl Try.func38 (by kernel_rfl) rfl #[.slice A0 l0.length c0] rfl (by (try simp only [map_toArray, map_cons, map_nil]); first | done | rfl) ?_; (with_reducible refine (paroleref04_Root.calls kj5 _ _ l0 t317 _ ?side1 ?side2 A35.out).mono ?_); (case side1 => exact Kd.C_below HR0.out (by repeat (first | (with_reducible first | exact HB.out | apply below_alloc | apply pw_below_drewN | apply below_drew1 | refine below_set ?_ GE303.out | refine below_set ?_ GE304.out | refine below_set ?_ GE315.out | refine below_set ?_ GE316.out) | exact HB.out))); (case side2 => exact HC0.out); rintro e w47 ⟨rfl, hb⟩; refine ⟨_, rfl, ?_⟩; have n0_ := Aside0.mk (Kd.R_below (by (with_reducible repeat (first | apply Kd.R_alloc | apply Kd.R_drewN | apply Kd.R_drew)); exact (Kd.R_mono (Kd.R_mono (Kd.R_far (p := ⟨gb316, 1, none⟩) (Kd.R_far (p := ⟨gb316, 0, none⟩) (Kd.R_far (p := ⟨gb315, 1, none⟩) (Kd.R_far (p := ⟨gb315, 0, none⟩) (Kd.R_types (Kd.R_types HO309.out BK315.out (by decide)) BK316.out (by decide)) (fun _ hk => by first | exact hk.1.2 | exact hk | exact ⟨hk.2, hk.1⟩ | simp_all) (.slice Ao26 t307.length co26)) (fun _ hk => by first | exact hk.1.2 | exact hk | exact ⟨hk.2, hk.1⟩ | simp_all) (.int .i64 t310)) (fun _ hk => by first | exact hk.2 | exact hk | exact ⟨hk.2, hk.1⟩ | simp_all) (.slice Ao31 t311.length co31)) (fun _ hk => by first | exact hk.2 | exact hk | exact ⟨hk.2, hk.1⟩ | simp_all) (.int .i64 t314)) (fun _ h_ => h_.1)) (fun _ h_ => h_.1))) hb); have n1_ := Aside0.mk (Kd.R_below (by (with_reducible repeat (first | apply Kd.R_alloc | apply Kd.R_drewN | apply Kd.R_drew)); exact (Kd.R_mono (Kd.R_mono (Kd.R_far (p := ⟨gb316, 1, none⟩) (Kd.R_far (p := ⟨gb316, 0, none⟩) (Kd.R_far (p := ⟨gb315, 1, none⟩) (Kd.R_far (p := ⟨gb315, 0, none⟩) (Kd.R_types (Kd.R_types HO313.out BK315.out (by decide)) BK316.out (by decide)) (fun _ hk => by first | exact hk.1.2 | exact hk | exact ⟨hk.2, hk.1⟩ | simp_all) (.slice Ao26 t307.length co26)) (fun _ hk => by first | exact hk.1.2 | exact hk | exact ⟨hk.2, hk.1⟩ | simp_all) (.int .i64 t310)) (fun _ hk => by first | exact hk.2 | exact hk | exact ⟨hk.2, hk.1⟩ | simp_all) (.slice Ao31 t311.length co31)) (fun _ hk => by first | exact hk.2 | exact hk | exact ⟨hk.2, hk.1⟩ | simp_all) (.int .i64 t314)) (fun _ h_ => h_.1)) (fun _ h_ => h_.1))) hb); have n2_ := Aside0.mk (blk_below (g := gb303) (o := .cells #[.int .u64 a1_0, .slice A1_1 l1_1.length c1_1, .int .u64 a1_2, .slice A1_3 l1_3.length c1_3] 57 (0, 0)) (by (with_reducible repeat (first | refine blk_drewN ?_ _ | refine blk_drew ?_ | refine blk_alloc ?_ _)); refine blk_far ?_ NB303_316.out _; (with_reducible repeat (first | refine blk_drewN ?_ _ | refine blk_drew ?_ | refine blk_alloc ?_ _)); refine blk_far ?_ NB303_316.out _; (with_reducible repeat (first | refine blk_drewN ?_ _ | refine blk_drew ?_ | refine blk_alloc ?_ _)); refine blk_far ?_ NB303_315.out _; (with_reducible repeat (first | refine blk_drewN ?_ _ | refine blk_drew ?_ | refine blk_alloc ?_ _)); refine blk_far ?_ NB303_315.out _; (with_reducible repeat (first | refine blk_drewN ?_ _ | refine blk_drew ?_ | refine blk_alloc ?_ _)); exact BK303.out) hb); have n3_ := Aside0.mk (blk_below (g := gb304) (o := .cells #[.int .i64 a2_0, .int .i64 a2_1, .int .i64 a2_2] 58 (0, 0)) (by (with_reducible repeat (first | refine blk_drewN ?_ _ | refine blk_drew ?_ | refine blk_alloc ?_ _)); refine blk_far ?_ NB304_316.out _; (with_reducible repeat (first | refine blk_drewN ?_ _ | refine blk_drew ?_ | refine blk_alloc ?_ _)); refine blk_far ?_ NB304_316.out _; (with_reducible repeat (first | refine blk_drewN ?_ _ | refine blk_drew ?_ | refine blk_alloc ?_ _)); refine blk_far ?_ NB304_315.out _; (with_reducible repeat (first | refine blk_drewN ?_ _ | refine blk_drew ?_ | refine blk_alloc ?_ _)); refine blk_far ?_ NB304_315.out _; (with_reducible repeat (first | refine blk_drewN ?_ _ | refine blk_drew ?_ | refine blk_alloc ?_ _)); exact BK304.out) hb); have n4_ := Aside0.mk (blk_below (g := gb315) (o := .cells #[.slice Ao26 t307.length co26, .int .i64 t310] 46 (0, 0)) (by (with_reducible repeat (first | refine blk_drewN ?_ _ | refine blk_drew ?_ | refine blk_alloc ?_ _)); refine blk_far ?_ NB315_316.out _; (with_reducible repeat (first | refine blk_drewN ?_ _ | refine blk_drew ?_ | refine blk_alloc ?_ _)); refine blk_far ?_ NB315_316.out _; (with_reducible repeat (first | refine blk_drewN ?_ _ | refine blk_drew ?_ | refine blk_alloc ?_ _)); refine blk_put (cs := #[.slice Ao26 t307.length co26, .int .i64 0]) ?_ 1 _ rfl; (with_reducible repeat (first | refine blk_drewN ?_ _ | refine blk_drew ?_ | refine blk_alloc ?_ _)); refine blk_put (cs := #[.slice none 0 0, .int .i64 0]) ?_ 0 _ rfl; (with_reducible repeat (first | refine blk_drewN ?_ _ | refine blk_drew ?_ | refine blk_alloc ?_ _)); exact BK315.out) hb); have n5_ := Aside0.mk (blk_below (g := gb316) (o := .cells #[.slice Ao31 t311.length co31, .int .i64 t314] 46 (0, 0)) (by (with_reducible repeat (first | refine blk_drewN ?_ _ | refine blk_drew ?_ | refine blk_alloc ?_ _)); refine blk_put (cs := #[.slice Ao31 t311.length co31, .int .i64 0]) ?_ 1 _ rfl; (with_reducible repeat (first | refine blk_drewN ?_ _ | refine blk_drew ?_ | refine blk_alloc ?_ _)); refine blk_put (cs := #[.slice none 0 0, .int .i64 0]) ?_ 0 _ rfl; (with_reducible repeat (first | refine blk_drewN ?_ _ | refine blk_drew ?_ | refine blk_alloc ?_ _)); refine blk_far ?_ NB316_315.out _; (with_reducible repeat (first | refine blk_drewN ?_ _ | refine blk_drew ?_ | refine blk_alloc ?_ _)); refine blk_far ?_ NB316_315.out _; (with_reducible repeat (first | refine blk_drewN ?_ _ | refine blk_drew ?_ | refine blk_alloc ?_ _)); exact BK316.out) hb); have n6_ := Aside0.mk (below_step (by repeat (first | (with_reducible first | exact HB.out | apply below_alloc | apply pw_below_drewN | apply below_drew1 | refine below_set ?_ GE303.out | refine below_set ?_ GE304.out | refine below_set ?_ GE315.out | refine below_set ?_ GE316.out) | exact HB.out)) hb); clear HO309; clear HO313; clear BK303; clear BK304; clear BK315; clear BK316; clear HB; have HO309 := n0_; have HO313 := n1_; have BK303 := n2_; have BK304 := n3_; have BK315 := n4_; have BK316 := n5_; have HB := n6_; clear n0_ n1_ n2_ n3_ n4_ n5_ n6_; (try clear hb); (try clear hb2); (try clear hk); (try clear hi); have hnb48 := NB315_303.out; have hnc48 := NB303_315.out; have hnb49 := NB315_304.out; have hnc49 := NB304_315.out; have hnb50 := NB315_316.out; have hnc50 := NB316_315.out; have hcz51_0 : w47.cell? ⟨gb315, 0, none⟩ = some (.slice Ao26 t307.length co26) := (blk_cell BK315.out 0).trans rfl; have hcz51_1 : w47.cell? ⟨gb315, 1, none⟩ = some (.int .i64 t310) := (blk_cell BK315.out 1).trans rfl; have hfz51_0 := blk_frozen BK315.out 0; have hfz51_1 := blk_frozen BK315.out 1; have hnb52 := NB316_303.out; have hnc52 := NB303_316.out; have hnb53 := NB316_304.out; have hnc53 := NB304_316.out; have hcz54_0 : w47.cell? ⟨gb316, 0, none⟩ = some (.slice Ao31 t311.length co31) := (blk_cell BK316.out 0).trans rfl; have hcz54_1 : w47.cell? ⟨gb316, 1, none⟩ = some (.int .i64 t314) := (blk_cell BK316.out 1).trans rfl; have hfz54_0 := blk_frozen BK316.out 0; have hfz54_1 := blk_frozen BK316.out 1))
        go_meet
        case rel => exact ⟨_, (true), (by first | rfl | (simp; done) | (simp [*]; done)), H', ⟨by have := HJ5.out; first | omega | exact Nat.le_refl _⟩, ⟨by (with_reducible repeat (first | apply Kd.R_alloc | apply Kd.R_drewN | apply Kd.R_drew)); exact Kd.R_mono HO309.out (fun _ hk => by first | exact hk.2 | exact hk | exact ⟨hk.2, hk.1⟩ | simp_all)⟩, ⟨by (with_reducible repeat (first | apply Kd.R_alloc | apply Kd.R_drewN | apply Kd.R_drew)); exact Kd.R_mono HO313.out (fun _ hk => by first | exact hk.2 | exact hk | exact ⟨hk.2, hk.1⟩ | simp_all)⟩, ⟨by (with_reducible repeat (first | refine blk_drewN ?_ _ | refine blk_drew ?_ | refine blk_alloc ?_ _)); exact BK303.out⟩, ⟨by (with_reducible repeat (first | refine blk_drewN ?_ _ | refine blk_drew ?_ | refine blk_alloc ?_ _)); exact BK304.out⟩, ⟨by (with_reducible repeat (first | refine blk_drewN ?_ _ | refine blk_drew ?_ | refine blk_alloc ?_ _)); exact BK315.out⟩, ⟨by (with_reducible repeat (first | refine blk_drewN ?_ _ | refine blk_drew ?_ | refine blk_alloc ?_ _)); exact BK316.out⟩, ⟨by repeat (first | (with_reducible first | exact HB.out | apply below_alloc | apply pw_below_drewN | apply below_drew1 | refine below_set ?_ GE303.out | refine below_set ?_ GE304.out | refine below_set ?_ GE315.out | refine below_set ?_ GE316.out) | exact HB.out)⟩⟩
      ·
       rw [if_neg c36] at H
       have c36b0 : (t306 == t317) = false := beq_eq_false_iff_ne.mpr c36
       have c36b1 : (t306 != t317) = true := bne_iff_ne.mpr c36
       (first | rw [c36b0] | (simp only [i64_w, i32_w]; rw [c36b0]) | skip)
       have H' := Aside0.mk H
       clear H
       go_wp2_with (first | ((with_reducible refine gate_callee (f := 38) rfl ?_); refine goesL_ (some 52) rfl rfl Try.func38 (by kernel_rfl) rfl #[.slice A0 l0.length c0] rfl (by (try simp only [map_toArray, map_cons, map_nil]); first | done | rfl) ?_; (with_reducible refine (paroleref04_Root.calls kj5 _ _ l0 t317 _ ?side1 ?side2 A35.out).mono ?_); (case side1 => exact Kd.C_below HR0.out (by repeat (first | (with_reducible first | exact HB.out | apply below_alloc | apply pw_below_drewN | apply below_drew1 | refine below_set ?_ GE303.out | refine below_set ?_ GE304.out | refine below_set ?_ GE315.out | refine below_set ?_ GE316.out) | exact HB.out))); (case side2 => exact HC0.out); rintro e w55 ⟨rfl, hb⟩; refine ⟨_, rfl, ?_⟩; have n0_ := Aside0.mk (Kd.R_below (by (with_reducible repeat (first | apply Kd.R_alloc | apply Kd.R_drewN | apply Kd.R_drew)); exact (Kd.R_mono (Kd.R_mono (Kd.R_far (p := ⟨gb316, 1, none⟩) (Kd.R_far (p := ⟨gb316, 0, none⟩) (Kd.R_far (p := ⟨gb315, 1, none⟩) (Kd.R_far (p := ⟨gb315, 0, none⟩) (Kd.R_types (Kd.R_types HO309.out BK315.out (by decide)) BK316.out (by decide)) (fun _ hk => by first | exact hk.1.2 | exact hk | exact ⟨hk.2, hk.1⟩ | simp_all) (.slice Ao26 t307.length co26)) (fun _ hk => by first | exact hk.1.2 | exact hk | exact ⟨hk.2, hk.1⟩ | simp_all) (.int .i64 t310)) (fun _ hk => by first | exact hk.2 | exact hk | exact ⟨hk.2, hk.1⟩ | simp_all) (.slice Ao31 t311.length co31)) (fun _ hk => by first | exact hk.2 | exact hk | exact ⟨hk.2, hk.1⟩ | simp_all) (.int .i64 t314)) (fun _ h_ => h_.1)) (fun _ h_ => h_.1))) hb); have n1_ := Aside0.mk (Kd.R_below (by (with_reducible repeat (first | apply Kd.R_alloc | apply Kd.R_drewN | apply Kd.R_drew)); exact (Kd.R_mono (Kd.R_mono (Kd.R_far (p := ⟨gb316, 1, none⟩) (Kd.R_far (p := ⟨gb316, 0, none⟩) (Kd.R_far (p := ⟨gb315, 1, none⟩) (Kd.R_far (p := ⟨gb315, 0, none⟩) (Kd.R_types (Kd.R_types HO313.out BK315.out (by decide)) BK316.out (by decide)) (fun _ hk => by first | exact hk.1.2 | exact hk | exact ⟨hk.2, hk.1⟩ | simp_all) (.slice Ao26 t307.length co26)) (fun _ hk => by first | exact hk.1.2 | exact hk | exact ⟨hk.2, hk.1⟩ | simp_all) (.int .i64 t310)) (fun _ hk => by first | exact hk.2 | exact hk | exact ⟨hk.2, hk.1⟩ | simp_all) (.slice Ao31 t311.length co31)) (fun _ hk => by first | exact hk.2 | exact hk | exact ⟨hk.2, hk.1⟩ | simp_all) (.int .i64 t314)) (fun _ h_ => h_.1)) (fun _ h_ => h_.1))) hb); have n2_ := Aside0.mk (blk_below (g := gb303) (o := .cells #[.int .u64 a1_0, .slice A1_1 l1_1.length c1_1, .int .u64 a1_2, .slice A1_3 l1_3.length c1_3] 57 (0, 0)) (by (with_reducible repeat (first | refine blk_drewN ?_ _ | refine blk_drew ?_ | refine blk_alloc ?_ _)); refine blk_far ?_ NB303_316.out _; (with_reducible repeat (first | refine blk_drewN ?_ _ | refine blk_drew ?_ | refine blk_alloc ?_ _)); refine blk_far ?_ NB303_316.out _; (with_reducible repeat (first | refine blk_drewN ?_ _ | refine blk_drew ?_ | refine blk_alloc ?_ _)); refine blk_far ?_ NB303_315.out _; (with_reducible repeat (first | refine blk_drewN ?_ _ | refine blk_drew ?_ | refine blk_alloc ?_ _)); refine blk_far ?_ NB303_315.out _; (with_reducible repeat (first | refine blk_drewN ?_ _ | refine blk_drew ?_ | refine blk_alloc ?_ _)); exact BK303.out) hb); have n3_ := Aside0.mk (blk_below (g := gb304) (o := .cells #[.int .i64 a2_0, .int .i64 a2_1, .int .i64 a2_2] 58 (0, 0)) (by (with_reducible repeat (first | refine blk_drewN ?_ _ | refine blk_drew ?_ | refine blk_alloc ?_ _)); refine blk_far ?_ NB304_316.out _; (with_reducible repeat (first | refine blk_drewN ?_ _ | refine blk_drew ?_ | refine blk_alloc ?_ _)); refine blk_far ?_ NB304_316.out _; (with_reducible repeat (first | refine blk_drewN ?_ _ | refine blk_drew ?_ | refine blk_alloc ?_ _)); refine blk_far ?_ NB304_315.out _; (with_reducible repeat (first | refine blk_drewN ?_ _ | refine blk_drew ?_ | refine blk_alloc ?_ _)); refine blk_far ?_ NB304_315.out _; (with_reducible repeat (first | refine blk_drewN ?_ _ | refine blk_drew ?_ | refine blk_alloc ?_ _)); exact BK304.out) hb); have n4_ := Aside0.mk (blk_below (g := gb315) (o := .cells #[.slice Ao26 t307.length co26, .int .i64 t310] 46 (0, 0)) (by (with_reducible repeat (first | refine blk_drewN ?_ _ | refine blk_drew ?_ | refine blk_alloc ?_ _)); refine blk_far ?_ NB315_316.out _; (with_reducible repeat (first | refine blk_drewN ?_ _ | refine blk_drew ?_ | refine blk_alloc ?_ _)); refine blk_far ?_ NB315_316.out _; (with_reducible repeat (first | refine blk_drewN ?_ _ | refine blk_drew ?_ | refine blk_alloc ?_ _)); refine blk_put (cs := #[.slice Ao26 t307.length co26, .int .i64 0]) ?_ 1 _ rfl; (with_reducible repeat (first | refine blk_drewN ?_ _ | refine blk_drew ?_ | refine blk_alloc ?_ _)); refine blk_put (cs := #[.slice none 0 0, .int .i64 0]) ?_ 0 _ rfl; (with_reducible repeat (first | refine blk_drewN ?_ _ | refine blk_drew ?_ | refine blk_alloc ?_ _)); exact BK315.out) hb); have n5_ := Aside0.mk (blk_below (g := gb316) (o := .cells #[.slice Ao31 t311.length co31, .int .i64 t314] 46 (0, 0)) (by (with_reducible repeat (first | refine blk_drewN ?_ _ | refine blk_drew ?_ | refine blk_alloc ?_ _)); refine blk_put (cs := #[.slice Ao31 t311.length co31, .int .i64 0]) ?_ 1 _ rfl; (with_reducible repeat (first | refine blk_drewN ?_ _ | refine blk_drew ?_ | refine blk_alloc ?_ _)); refine blk_put (cs := #[.slice none 0 0, .int .i64 0]) ?_ 0 _ rfl; (with_reducible repeat (first | refine blk_drewN ?_ _ | refine blk_drew ?_ | refine blk_alloc ?_ _)); refine blk_far ?_ NB316_315.out _; (with_reducible repeat (first | refine blk_drewN ?_ _ | refine blk_drew ?_ | refine blk_alloc ?_ _)); refine blk_far ?_ NB316_315.out _; (with_reducible repeat (first | refine blk_drewN ?_ _ | refine blk_drew ?_ | refine blk_alloc ?_ _)); exact BK316.out) hb); have n6_ := Aside0.mk (below_step (by repeat (first | (with_reducible first | exact HB.out | apply below_alloc | apply pw_below_drewN | apply below_drew1 | refine below_set ?_ GE303.out | refine below_set ?_ GE304.out | refine below_set ?_ GE315.out | refine below_set ?_ GE316.out) | exact HB.out)) hb); clear HO309; clear HO313; clear BK303; clear BK304; clear BK315; clear BK316; clear HB; have HO309 := n0_; have HO313 := n1_; have BK303 := n2_; have BK304 := n3_; have BK315 := n4_; have BK316 := n5_; have HB := n6_; clear n0_ n1_ n2_ n3_ n4_ n5_ n6_; (try clear hb); (try clear hb2); (try clear hk); (try clear hi)))
       go_meet
       case rel => exact ⟨_, (true), (by first | rfl | (simp; done) | (simp [*]; done)), H', ⟨by have := HJ5.out; first | omega | exact Nat.le_refl _⟩, ⟨by (with_reducible repeat (first | apply Kd.R_alloc | apply Kd.R_drewN | apply Kd.R_drew)); exact Kd.R_mono HO309.out (fun _ hk => by first | exact hk.2 | exact hk | exact ⟨hk.2, hk.1⟩ | simp_all)⟩, ⟨by (with_reducible repeat (first | apply Kd.R_alloc | apply Kd.R_drewN | apply Kd.R_drew)); exact Kd.R_mono HO313.out (fun _ hk => by first | exact hk.2 | exact hk | exact ⟨hk.2, hk.1⟩ | simp_all)⟩, ⟨by (with_reducible repeat (first | refine blk_drewN ?_ _ | refine blk_drew ?_ | refine blk_alloc ?_ _)); exact BK303.out⟩, ⟨by (with_reducible repeat (first | refine blk_drewN ?_ _ | refine blk_drew ?_ | refine blk_alloc ?_ _)); exact BK304.out⟩, ⟨by (with_reducible repeat (first | refine blk_drewN ?_ _ | refine blk_drew ?_ | refine blk_alloc ?_ _)); exact BK315.out⟩, ⟨by (with_reducible repeat (first | refine blk_drewN ?_ _ | refine blk_drew ?_ | refine blk_alloc ?_ _)); exact BK316.out⟩, ⟨by repeat (first | (with_reducible first | exact HB.out | apply below_alloc | apply pw_below_drewN | apply below_drew1 | refine below_set ?_ GE303.out | refine below_set ?_ GE304.out | refine below_set ?_ GE315.out | refine below_set ?_ GE316.out) | exact HB.out)⟩⟩
     case rest =>
      clear HC20
      try clear c1
      try clear c2
      try clear p2
      try clear c3
      try clear c4
      try clear c5
      try clear c10
      try clear c10b0
      try clear c10b1
      try clear c11
      try clear c11b0
      try clear c11b1
      try clear c12
      try clear c14
      try clear c16
      try clear c27
      try clear c28
      try clear c29
      try clear c31
      try clear c32
      try clear c33
      try clear c34
      try clear c36
      try clear c36b0
      try clear c36b1
      try clear c37
      try clear c37b0
      try clear c37b1
      try clear c38
      try clear c40
      try clear c41
      try clear c42
      try clear c44
      try clear c45
      try clear c48
      try clear c49
      try clear c50
      try clear c52
      try clear c53
      try clear hcz13_0
      try clear hcz13_1
      try clear hcz13_2
      try clear hcz13_3
      try clear hcz15_0
      try clear hcz15_1
      try clear hcz15_2
      try clear hcz15_3
      try clear hcz30_0
      try clear hcz30_1
      try clear hcz34_0
      try clear hcz34_1
      try clear hcz43_0
      try clear hcz43_1
      try clear hcz46_0
      try clear hcz46_1
      try clear hcz51_0
      try clear hcz51_1
      try clear hcz54_0
      try clear hcz54_1
      try clear hfz13_0
      try clear hfz13_1
      try clear hfz13_2
      try clear hfz13_3
      try clear hfz15_0
      try clear hfz15_1
      try clear hfz15_2
      try clear hfz15_3
      try clear hfz30_0
      try clear hfz30_1
      try clear hfz34_0
      try clear hfz34_1
      try clear hfz43_0
      try clear hfz43_1
      try clear hfz46_0
      try clear hfz46_1
      try clear hfz51_0
      try clear hfz51_1
      try clear hfz54_0
      try clear hfz54_1
      try clear p2
      obtain ⟨kq, x68_19, rfl, HA, HJ19, HO_316000, HO_317000, BK303, BK304, BK315, BK316, HB⟩ := hcut
      cases kq with
      | zero => exact absurd HA.out (by simp [parolelaw04_MerkleMatchesReference.j1])
      | succ kj19 =>
       have H := HA.out
       clear HA
       simp only [parolelaw04_MerkleMatchesReference.j1] at H
       by_cases c56 : x68_19 = true
       ·
        subst c56
        have H1 : (none) = some r := by rw [if_pos rfl] at H; exact H
        clear H
        have H := H1
        clear H1
        exact absurd H (by simp)
       ·
        replace c56 := Bool.eq_false_iff.mpr c56
        subst c56
        have H1 : (if t310 = 0 then (parolelaw04_MerkleMatchesReference.j2 kj19 l0 true a2_0 a2_1 t306 ((Int.tmod a2_2 2) == 0) a1_0 l1_1 a1_2 l1_3 t307 t310 a1_0 l1_1) else (parolelaw04_MerkleMatchesReference.j2 kj19 l0 true a2_0 a2_1 t306 false a1_0 l1_1 a1_2 l1_3 t307 t310 a1_0 l1_1)) = some r := by rw [if_neg (show ¬ (false = true) by decide)] at H; exact H
        clear H
        have H := H1
        clear H1
        have HC57 := Aside0.mk H
        clear H
        have hnb58 := NB303_304.out
        have hnc58 := NB304_303.out
        have hnb59 := NB303_315.out
        have hnc59 := NB315_303.out
        have hnb60 := NB303_316.out
        have hnc60 := NB316_303.out
        have hcz61_0 : wc.cell? ⟨gb303, 0, none⟩ = some (.int .u64 a1_0) := (blk_cell BK303.out 0).trans rfl
        have hcz61_1 : wc.cell? ⟨gb303, 1, none⟩ = some (.slice A1_1 l1_1.length c1_1) := (blk_cell BK303.out 1).trans rfl
        have hcz61_2 : wc.cell? ⟨gb303, 2, none⟩ = some (.int .u64 a1_2) := (blk_cell BK303.out 2).trans rfl
        have hcz61_3 : wc.cell? ⟨gb303, 3, none⟩ = some (.slice A1_3 l1_3.length c1_3) := (blk_cell BK303.out 3).trans rfl
        have hfz61_0 := blk_frozen BK303.out 0
        have hfz61_1 := blk_frozen BK303.out 1
        have hfz61_2 := blk_frozen BK303.out 2
        have hfz61_3 := blk_frozen BK303.out 3
        go_upto_region 12 with (first | ((with_reducible refine gate_dst (N := 13) rfl ?_); (try (refine gate_guard (by rfl) ?_; dsimp only)); refine box_event ?hg (N := 13) ?hd (cs := #[.int .u64 0, .slice none 0 0]) (t := 50) ?hr ?_; (case hd => rfl); (case hg => rfl); (case hr => first | (go_simp; done) | (go_simp; rfl)); intro gb319 hg w62 hbox hb; have n0_ := Aside0.mk (Kd.R_below (by (with_reducible repeat (first | apply Kd.R_alloc | apply Kd.R_drewN | apply Kd.R_drew)); exact HO_316000.out) hb); have n1_ := Aside0.mk (Kd.R_below (by (with_reducible repeat (first | apply Kd.R_alloc | apply Kd.R_drewN | apply Kd.R_drew)); exact HO_317000.out) hb); have n2_ := Aside0.mk (blk_below (g := gb303) (o := .cells #[.int .u64 a1_0, .slice A1_1 l1_1.length c1_1, .int .u64 a1_2, .slice A1_3 l1_3.length c1_3] 57 (0, 0)) (by (with_reducible repeat (first | refine blk_drewN ?_ _ | refine blk_drew ?_ | refine blk_alloc ?_ _)); exact BK303.out) hb); have n3_ := Aside0.mk (blk_below (g := gb304) (o := .cells #[.int .i64 a2_0, .int .i64 a2_1, .int .i64 a2_2] 58 (0, 0)) (by (with_reducible repeat (first | refine blk_drewN ?_ _ | refine blk_drew ?_ | refine blk_alloc ?_ _)); exact BK304.out) hb); have n4_ := Aside0.mk (blk_below (g := gb315) (o := .cells #[.slice Ao26 t307.length co26, .int .i64 t310] 46 (0, 0)) (by (with_reducible repeat (first | refine blk_drewN ?_ _ | refine blk_drew ?_ | refine blk_alloc ?_ _)); exact BK315.out) hb); have n5_ := Aside0.mk (blk_below (g := gb316) (o := .cells #[.slice Ao31 t311.length co31, .int .i64 t314] 46 (0, 0)) (by (with_reducible repeat (first | refine blk_drewN ?_ _ | refine blk_drew ?_ | refine blk_alloc ?_ _)); exact BK316.out) hb); have n6_ := Aside0.mk (below_step (by repeat (first | (with_reducible first | exact HB.out | apply below_alloc | apply pw_below_drewN | apply below_drew1 | refine below_set ?_ GE303.out | refine below_set ?_ GE304.out | refine below_set ?_ GE315.out | refine below_set ?_ GE316.out) | exact HB.out)) hb); have n7_ := Aside0.mk (hbox); have n8_ := Aside0.mk ((by rw [hg]; exact (below_size (by repeat (first | (with_reducible first | exact HB.out | apply below_alloc | apply pw_below_drewN | apply below_drew1 | refine below_set ?_ GE303.out | refine below_set ?_ GE304.out | refine below_set ?_ GE315.out | refine below_set ?_ GE316.out) | exact HB.out))) : w.heap.size ≤ gb319)); have n9_ := Aside0.mk ((by rw [hg]; exact (below_size (by repeat (first | (with_reducible first | exact HB.out | apply below_alloc | apply pw_below_drewN | apply below_drew1 | refine below_set ?_ GE303.out | refine below_set ?_ GE304.out | refine below_set ?_ GE315.out | refine below_set ?_ GE316.out) | exact HB.out))) : w.heap.size ≤ gb319)); have n10_ := Aside0.mk ((by rw [hg]; exact Nat.ne_of_lt (blk_lt (g := gb303) (o := .cells #[.int .u64 a1_0, .slice A1_1 l1_1.length c1_1, .int .u64 a1_2, .slice A1_3 l1_3.length c1_3] 57 (0, 0)) (by (with_reducible repeat (first | refine blk_drewN ?_ _ | refine blk_drew ?_ | refine blk_alloc ?_ _)); exact BK303.out)) : gb303 ≠ gb319)); have n11_ := Aside0.mk ((by rw [hg]; exact Nat.ne_of_gt (blk_lt (g := gb303) (o := .cells #[.int .u64 a1_0, .slice A1_1 l1_1.length c1_1, .int .u64 a1_2, .slice A1_3 l1_3.length c1_3] 57 (0, 0)) (by (with_reducible repeat (first | refine blk_drewN ?_ _ | refine blk_drew ?_ | refine blk_alloc ?_ _)); exact BK303.out)) : gb319 ≠ gb303)); have n12_ := Aside0.mk ((by rw [hg]; exact Nat.ne_of_lt (blk_lt (g := gb304) (o := .cells #[.int .i64 a2_0, .int .i64 a2_1, .int .i64 a2_2] 58 (0, 0)) (by (with_reducible repeat (first | refine blk_drewN ?_ _ | refine blk_drew ?_ | refine blk_alloc ?_ _)); exact BK304.out)) : gb304 ≠ gb319)); have n13_ := Aside0.mk ((by rw [hg]; exact Nat.ne_of_gt (blk_lt (g := gb304) (o := .cells #[.int .i64 a2_0, .int .i64 a2_1, .int .i64 a2_2] 58 (0, 0)) (by (with_reducible repeat (first | refine blk_drewN ?_ _ | refine blk_drew ?_ | refine blk_alloc ?_ _)); exact BK304.out)) : gb319 ≠ gb304)); have n14_ := Aside0.mk ((by rw [hg]; exact Nat.ne_of_lt (blk_lt (g := gb315) (o := .cells #[.slice Ao26 t307.length co26, .int .i64 t310] 46 (0, 0)) (by (with_reducible repeat (first | refine blk_drewN ?_ _ | refine blk_drew ?_ | refine blk_alloc ?_ _)); exact BK315.out)) : gb315 ≠ gb319)); have n15_ := Aside0.mk ((by rw [hg]; exact Nat.ne_of_gt (blk_lt (g := gb315) (o := .cells #[.slice Ao26 t307.length co26, .int .i64 t310] 46 (0, 0)) (by (with_reducible repeat (first | refine blk_drewN ?_ _ | refine blk_drew ?_ | refine blk_alloc ?_ _)); exact BK315.out)) : gb319 ≠ gb315)); have n16_ := Aside0.mk ((by rw [hg]; exact Nat.ne_of_lt (blk_lt (g := gb316) (o := .cells #[.slice Ao31 t311.length co31, .int .i64 t314] 46 (0, 0)) (by (with_reducible repeat (first | refine blk_drewN ?_ _ | refine blk_drew ?_ | refine blk_alloc ?_ _)); exact BK316.out)) : gb316 ≠ gb319)); have n17_ := Aside0.mk ((by rw [hg]; exact Nat.ne_of_gt (blk_lt (g := gb316) (o := .cells #[.slice Ao31 t311.length co31, .int .i64 t314] 46 (0, 0)) (by (with_reducible repeat (first | refine blk_drewN ?_ _ | refine blk_drew ?_ | refine blk_alloc ?_ _)); exact BK316.out)) : gb319 ≠ gb316)); clear HO_316000; clear HO_317000; clear BK303; clear BK304; clear BK315; clear BK316; clear HB; have HO_316000 := n0_; have HO_317000 := n1_; have BK303 := n2_; have BK304 := n3_; have BK315 := n4_; have BK316 := n5_; have HB := n6_; have BK319 := n7_; have GW319 := n8_; have GE319 := n9_; have NB303_319 := n10_; have NB319_303 := n11_; have NB304_319 := n12_; have NB319_304 := n13_; have NB315_319 := n14_; have NB319_315 := n15_; have NB316_319 := n16_; have NB319_316 := n17_; clear n0_ n1_ n2_ n3_ n4_ n5_ n6_ n7_ n8_ n9_ n10_ n11_ n12_ n13_ n14_ n15_ n16_ n17_; clear hb hbox hg; have hnb63 := NB319_303.out; have hnc63 := NB303_319.out; have hnb64 := NB319_304.out; have hnc64 := NB304_319.out; have hnb65 := NB319_315.out; have hnc65 := NB315_319.out; have hnb66 := NB319_316.out; have hnc66 := NB316_319.out; have hcz67_0 : w62.cell? ⟨gb319, 0, none⟩ = some (.int .u64 0) := (blk_cell BK319.out 0).trans rfl; have hcz67_1 : w62.cell? ⟨gb319, 1, none⟩ = some (.slice none 0 0) := (blk_cell BK319.out 1).trans rfl; have hfz67_0 := blk_frozen BK319.out 0; have hfz67_1 := blk_frozen BK319.out 1))
        (try simp only [Act.put, setIfInBounds_toArray, set_cons_zero, set_cons_succ])
        go_cut [79] (fun v79 wc => ∃ (kq : Nat) (x79_56 : Bool), v79 = .bool x79_56 ∧ Aside0 (parolelaw04_MerkleMatchesReference.j2 kq l0 true a2_0 a2_1 t306 x79_56 a1_0 l1_1 a1_2 l1_3 t307 t310 a1_0 l1_1 = some r) ∧ Aside0 (kq ≤ kj19) ∧ Aside0 (Kd.R (Kd.int .u64) 22 wc w.heap.size (fun k_ => some k_ ≠ ((.slice Ao31 t311.length co31) : Value).ownBlock) (.slice Ao26 t307.length co26) t307) ∧ Aside0 (Kd.R (Kd.int .u64) 22 wc w.heap.size (fun k_ => some k_ ≠ ((.slice Ao26 t307.length co26) : Value).ownBlock) (.slice Ao31 t311.length co31) t311) ∧ Aside0 (wc.heap[gb303]? = some (.cells #[.int .u64 a1_0, (.slice A1_1 l1_1.length c1_1), .int .u64 a1_2, (.slice A1_3 l1_3.length c1_3)] 57 (0, 0))) ∧ Aside0 (wc.heap[gb304]? = some (.cells #[.int .i64 a2_0, .int .i64 a2_1, .int .i64 a2_2] 58 (0, 0))) ∧ Aside0 (wc.heap[gb315]? = some (.cells #[(.slice Ao26 t307.length co26), .int .i64 t310] 46 (0, 0))) ∧ Aside0 (wc.heap[gb316]? = some (.cells #[(.slice Ao31 t311.length co31), .int .i64 t314] 46 (0, 0))) ∧ Aside0 (wc.heap[gb319]? = some (.cells #[.int .u64 a1_0, (.slice A1_1 l1_1.length c1_1)] 50 (0, 0))) ∧ Aside0 (Below w.heap.size w wc))
        case first =>
         have H := HC57.out
         clear HC57
         by_cases c68 : t310 = 0
         ·
          rw [if_pos c68] at H
          have c68b0 : (t310 == 0) = true := beq_iff_eq.mpr c68
          have c68b1 : (t310 != 0) = false := bne_eq_false_iff_eq.mpr c68
          clear c68
          (first | rw [c68b0] | (simp only [i64_w, i32_w]; rw [c68b0]) | skip)
          have H' := Aside0.mk H
          clear H
          have hnb69 := NB315_303.out
          have hnc69 := NB303_315.out
          have hnb70 := NB315_304.out
          have hnc70 := NB304_315.out
          have hnb71 := NB315_316.out
          have hnc71 := NB316_315.out
          have hnb72 := NB315_319.out
          have hnc72 := NB319_315.out
          have hcz73_0 : w62.cell? ⟨gb315, 0, none⟩ = some (.slice Ao26 t307.length co26) := (blk_cell BK315.out 0).trans rfl
          have hcz73_1 : w62.cell? ⟨gb315, 1, none⟩ = some (.int .i64 t310) := (blk_cell BK315.out 1).trans rfl
          have hfz73_0 := blk_frozen BK315.out 0
          have hfz73_1 := blk_frozen BK315.out 1
          have hnb74 := NB304_303.out
          have hnc74 := NB303_304.out
          have hnb75 := NB304_316.out
          have hnc75 := NB316_304.out
          have hnb76 := NB304_319.out
          have hnc76 := NB319_304.out
          have hcz77_0 : w62.cell? ⟨gb304, 0, none⟩ = some (.int .i64 a2_0) := (blk_cell BK304.out 0).trans rfl
          have hcz77_1 : w62.cell? ⟨gb304, 1, none⟩ = some (.int .i64 a2_1) := (blk_cell BK304.out 1).trans rfl
          have hcz77_2 : w62.cell? ⟨gb304, 2, none⟩ = some (.int .i64 a2_2) := (blk_cell BK304.out 2).trans rfl
          have hfz77_0 := blk_frozen BK304.out 0
          have hfz77_1 := blk_frozen BK304.out 1
          have hfz77_2 := blk_frozen BK304.out 2
          go_wp2
          go_meet
          case rel => exact ⟨_, (((Int.tmod a2_2 2) == 0)), (by first | rfl | (simp; done) | (simp [*]; done)), H', ⟨by have := HJ5.out; have := HJ19.out; first | omega | exact Nat.le_refl _⟩, ⟨by (with_reducible repeat (first | apply Kd.R_alloc | apply Kd.R_drewN | apply Kd.R_drew)); exact Kd.R_mono (Kd.R_far (p := ⟨gb319, 1, none⟩) (Kd.R_far (p := ⟨gb319, 0, none⟩) (Kd.R_types HO_316000.out BK319.out (by decide)) (fun _ hk => by first | exact hk.2 | exact hk | exact ⟨hk.2, hk.1⟩ | simp_all) (.int .u64 a1_0)) (fun _ hk => by first | exact hk.2 | exact hk | exact ⟨hk.2, hk.1⟩ | simp_all) (.slice A1_1 l1_1.length c1_1)) (fun _ hk => by first | exact hk.1 | exact hk | exact ⟨hk.2, hk.1⟩ | simp_all)⟩, ⟨by (with_reducible repeat (first | apply Kd.R_alloc | apply Kd.R_drewN | apply Kd.R_drew)); exact Kd.R_mono (Kd.R_far (p := ⟨gb319, 1, none⟩) (Kd.R_far (p := ⟨gb319, 0, none⟩) (Kd.R_types HO_317000.out BK319.out (by decide)) (fun _ hk => by first | exact hk.2 | exact hk | exact ⟨hk.2, hk.1⟩ | simp_all) (.int .u64 a1_0)) (fun _ hk => by first | exact hk.2 | exact hk | exact ⟨hk.2, hk.1⟩ | simp_all) (.slice A1_1 l1_1.length c1_1)) (fun _ hk => by first | exact hk.1 | exact hk | exact ⟨hk.2, hk.1⟩ | simp_all)⟩, ⟨by (with_reducible repeat (first | refine blk_drewN ?_ _ | refine blk_drew ?_ | refine blk_alloc ?_ _)); refine blk_far ?_ NB303_319.out _; (with_reducible repeat (first | refine blk_drewN ?_ _ | refine blk_drew ?_ | refine blk_alloc ?_ _)); refine blk_far ?_ NB303_319.out _; (with_reducible repeat (first | refine blk_drewN ?_ _ | refine blk_drew ?_ | refine blk_alloc ?_ _)); exact BK303.out⟩, ⟨by (with_reducible repeat (first | refine blk_drewN ?_ _ | refine blk_drew ?_ | refine blk_alloc ?_ _)); refine blk_far ?_ NB304_319.out _; (with_reducible repeat (first | refine blk_drewN ?_ _ | refine blk_drew ?_ | refine blk_alloc ?_ _)); refine blk_far ?_ NB304_319.out _; (with_reducible repeat (first | refine blk_drewN ?_ _ | refine blk_drew ?_ | refine blk_alloc ?_ _)); exact BK304.out⟩, ⟨by (with_reducible repeat (first | refine blk_drewN ?_ _ | refine blk_drew ?_ | refine blk_alloc ?_ _)); refine blk_far ?_ NB315_319.out _; (with_reducible repeat (first | refine blk_drewN ?_ _ | refine blk_drew ?_ | refine blk_alloc ?_ _)); refine blk_far ?_ NB315_319.out _; (with_reducible repeat (first | refine blk_drewN ?_ _ | refine blk_drew ?_ | refine blk_alloc ?_ _)); exact BK315.out⟩, ⟨by (with_reducible repeat (first | refine blk_drewN ?_ _ | refine blk_drew ?_ | refine blk_alloc ?_ _)); refine blk_far ?_ NB316_319.out _; (with_reducible repeat (first | refine blk_drewN ?_ _ | refine blk_drew ?_ | refine blk_alloc ?_ _)); refine blk_far ?_ NB316_319.out _; (with_reducible repeat (first | refine blk_drewN ?_ _ | refine blk_drew ?_ | refine blk_alloc ?_ _)); exact BK316.out⟩, ⟨by (with_reducible repeat (first | refine blk_drewN ?_ _ | refine blk_drew ?_ | refine blk_alloc ?_ _)); refine blk_put (cs := #[.int .u64 a1_0, .slice none 0 0]) ?_ 1 _ rfl; (with_reducible repeat (first | refine blk_drewN ?_ _ | refine blk_drew ?_ | refine blk_alloc ?_ _)); refine blk_put (cs := #[.int .u64 0, .slice none 0 0]) ?_ 0 _ rfl; (with_reducible repeat (first | refine blk_drewN ?_ _ | refine blk_drew ?_ | refine blk_alloc ?_ _)); exact BK319.out⟩, ⟨by repeat (first | (with_reducible first | exact HB.out | apply below_alloc | apply pw_below_drewN | apply below_drew1 | refine below_set ?_ GE303.out | refine below_set ?_ GE304.out | refine below_set ?_ GE315.out | refine below_set ?_ GE316.out | refine below_set ?_ GE319.out) | exact HB.out)⟩⟩
         ·
          rw [if_neg c68] at H
          have c68b0 : (t310 == 0) = false := beq_eq_false_iff_ne.mpr c68
          have c68b1 : (t310 != 0) = true := bne_iff_ne.mpr c68
          (first | rw [c68b0] | (simp only [i64_w, i32_w]; rw [c68b0]) | skip)
          have H' := Aside0.mk H
          clear H
          have hnb78 := NB315_303.out
          have hnc78 := NB303_315.out
          have hnb79 := NB315_304.out
          have hnc79 := NB304_315.out
          have hnb80 := NB315_316.out
          have hnc80 := NB316_315.out
          have hnb81 := NB315_319.out
          have hnc81 := NB319_315.out
          have hcz82_0 : w62.cell? ⟨gb315, 0, none⟩ = some (.slice Ao26 t307.length co26) := (blk_cell BK315.out 0).trans rfl
          have hcz82_1 : w62.cell? ⟨gb315, 1, none⟩ = some (.int .i64 t310) := (blk_cell BK315.out 1).trans rfl
          have hfz82_0 := blk_frozen BK315.out 0
          have hfz82_1 := blk_frozen BK315.out 1
          go_wp2
          go_meet
          case rel => exact ⟨_, (false), (by first | rfl | (simp; done) | (simp [*]; done)), H', ⟨by have := HJ5.out; have := HJ19.out; first | omega | exact Nat.le_refl _⟩, ⟨by (with_reducible repeat (first | apply Kd.R_alloc | apply Kd.R_drewN | apply Kd.R_drew)); exact Kd.R_mono (Kd.R_far (p := ⟨gb319, 1, none⟩) (Kd.R_far (p := ⟨gb319, 0, none⟩) (Kd.R_types HO_316000.out BK319.out (by decide)) (fun _ hk => by first | exact hk.2 | exact hk | exact ⟨hk.2, hk.1⟩ | simp_all) (.int .u64 a1_0)) (fun _ hk => by first | exact hk.2 | exact hk | exact ⟨hk.2, hk.1⟩ | simp_all) (.slice A1_1 l1_1.length c1_1)) (fun _ hk => by first | exact hk.1 | exact hk | exact ⟨hk.2, hk.1⟩ | simp_all)⟩, ⟨by (with_reducible repeat (first | apply Kd.R_alloc | apply Kd.R_drewN | apply Kd.R_drew)); exact Kd.R_mono (Kd.R_far (p := ⟨gb319, 1, none⟩) (Kd.R_far (p := ⟨gb319, 0, none⟩) (Kd.R_types HO_317000.out BK319.out (by decide)) (fun _ hk => by first | exact hk.2 | exact hk | exact ⟨hk.2, hk.1⟩ | simp_all) (.int .u64 a1_0)) (fun _ hk => by first | exact hk.2 | exact hk | exact ⟨hk.2, hk.1⟩ | simp_all) (.slice A1_1 l1_1.length c1_1)) (fun _ hk => by first | exact hk.1 | exact hk | exact ⟨hk.2, hk.1⟩ | simp_all)⟩, ⟨by (with_reducible repeat (first | refine blk_drewN ?_ _ | refine blk_drew ?_ | refine blk_alloc ?_ _)); refine blk_far ?_ NB303_319.out _; (with_reducible repeat (first | refine blk_drewN ?_ _ | refine blk_drew ?_ | refine blk_alloc ?_ _)); refine blk_far ?_ NB303_319.out _; (with_reducible repeat (first | refine blk_drewN ?_ _ | refine blk_drew ?_ | refine blk_alloc ?_ _)); exact BK303.out⟩, ⟨by (with_reducible repeat (first | refine blk_drewN ?_ _ | refine blk_drew ?_ | refine blk_alloc ?_ _)); refine blk_far ?_ NB304_319.out _; (with_reducible repeat (first | refine blk_drewN ?_ _ | refine blk_drew ?_ | refine blk_alloc ?_ _)); refine blk_far ?_ NB304_319.out _; (with_reducible repeat (first | refine blk_drewN ?_ _ | refine blk_drew ?_ | refine blk_alloc ?_ _)); exact BK304.out⟩, ⟨by (with_reducible repeat (first | refine blk_drewN ?_ _ | refine blk_drew ?_ | refine blk_alloc ?_ _)); refine blk_far ?_ NB315_319.out _; (with_reducible repeat (first | refine blk_drewN ?_ _ | refine blk_drew ?_ | refine blk_alloc ?_ _)); refine blk_far ?_ NB315_319.out _; (with_reducible repeat (first | refine blk_drewN ?_ _ | refine blk_drew ?_ | refine blk_alloc ?_ _)); exact BK315.out⟩, ⟨by (with_reducible repeat (first | refine blk_drewN ?_ _ | refine blk_drew ?_ | refine blk_alloc ?_ _)); refine blk_far ?_ NB316_319.out _; (with_reducible repeat (first | refine blk_drewN ?_ _ | refine blk_drew ?_ | refine blk_alloc ?_ _)); refine blk_far ?_ NB316_319.out _; (with_reducible repeat (first | refine blk_drewN ?_ _ | refine blk_drew ?_ | refine blk_alloc ?_ _)); exact BK316.out⟩, ⟨by (with_reducible repeat (first | refine blk_drewN ?_ _ | refine blk_drew ?_ | refine blk_alloc ?_ _)); refine blk_put (cs := #[.int .u64 a1_0, .slice none 0 0]) ?_ 1 _ rfl; (with_reducible repeat (first | refine blk_drewN ?_ _ | refine blk_drew ?_ | refine blk_alloc ?_ _)); refine blk_put (cs := #[.int .u64 0, .slice none 0 0]) ?_ 0 _ rfl; (with_reducible repeat (first | refine blk_drewN ?_ _ | refine blk_drew ?_ | refine blk_alloc ?_ _)); exact BK319.out⟩, ⟨by repeat (first | (with_reducible first | exact HB.out | apply below_alloc | apply pw_below_drewN | apply below_drew1 | refine below_set ?_ GE303.out | refine below_set ?_ GE304.out | refine below_set ?_ GE315.out | refine below_set ?_ GE316.out | refine below_set ?_ GE319.out) | exact HB.out)⟩⟩
        case rest =>
         clear HC57
         try clear c1
         try clear c2
         try clear p2
         try clear c3
         try clear c4
         try clear c5
         try clear c6
         try clear c7
         try clear c8
         try clear c10
         try clear c10b0
         try clear c10b1
         try clear c11
         try clear c11b0
         try clear c11b1
         try clear c12
         try clear c14
         try clear c16
         try clear c27
         try clear c28
         try clear c29
         try clear c31
         try clear c32
         try clear c33
         try clear c34
         try clear c36
         try clear c36b0
         try clear c36b1
         try clear c37
         try clear c37b0
         try clear c37b1
         try clear c38
         try clear c40
         try clear c41
         try clear c42
         try clear c44
         try clear c45
         try clear c48
         try clear c49
         try clear c50
         try clear c52
         try clear c53
         try clear c56
         try clear c58
         try clear c59
         try clear c60
         try clear c63
         try clear c64
         try clear c65
         try clear c66
         try clear c68
         try clear c68b0
         try clear c68b1
         try clear c69
         try clear c70
         try clear c71
         try clear c72
         try clear c74
         try clear c75
         try clear c76
         try clear c78
         try clear c79
         try clear c80
         try clear c81
         try clear hcz13_0
         try clear hcz13_1
         try clear hcz13_2
         try clear hcz13_3
         try clear hcz15_0
         try clear hcz15_1
         try clear hcz15_2
         try clear hcz15_3
         try clear hcz30_0
         try clear hcz30_1
         try clear hcz34_0
         try clear hcz34_1
         try clear hcz43_0
         try clear hcz43_1
         try clear hcz46_0
         try clear hcz46_1
         try clear hcz51_0
         try clear hcz51_1
         try clear hcz54_0
         try clear hcz54_1
         try clear hcz61_0
         try clear hcz61_1
         try clear hcz61_2
         try clear hcz61_3
         try clear hcz67_0
         try clear hcz67_1
         try clear hcz73_0
         try clear hcz73_1
         try clear hcz77_0
         try clear hcz77_1
         try clear hcz77_2
         try clear hcz82_0
         try clear hcz82_1
         try clear hfz13_0
         try clear hfz13_1
         try clear hfz13_2
         try clear hfz13_3
         try clear hfz15_0
         try clear hfz15_1
         try clear hfz15_2
         try clear hfz15_3
         try clear hfz30_0
         try clear hfz30_1
         try clear hfz34_0
         try clear hfz34_1
         try clear hfz43_0
         try clear hfz43_1
         try clear hfz46_0
         try clear hfz46_1
         try clear hfz51_0
         try clear hfz51_1
         try clear hfz54_0
         try clear hfz54_1
         try clear hfz61_0
         try clear hfz61_1
         try clear hfz61_2
         try clear hfz61_3
         try clear hfz67_0
         try clear hfz67_1
         try clear hfz73_0
         try clear hfz73_1
         try clear hfz77_0
         try clear hfz77_1
         try clear hfz77_2
         try clear hfz82_0
         try clear hfz82_1
         try clear p2
         obtain ⟨kq, x79_56, rfl, HA, HJ56, HO_316000, HO_317000, BK303, BK304, BK315, BK316, BK319, HB⟩ := hcut
         cases kq with
         | zero => exact absurd HA.out (by simp [parolelaw04_MerkleMatchesReference.j2])
         | succ kj56 =>
          have H := HA.out
          clear HA
          simp only [parolelaw04_MerkleMatchesReference.j2] at H
          by_cases c83 : x79_56 = true
          ·
           subst c83
           have H1 : (if 0 ≤ a2_1 then (if a2_1 < (l0.length : Int) then ((parolelaw04_check.f t306 (l0.length : Int) a2_1 (rd l0 a2_1) t307).bind fun t321 => ((paroleref04_Check.f kj56 t306 (l0.length : Int) a2_1 (rd l0 a2_1) t307).bind fun t322 => (if t321 = t322 then ((parolelaw04_check.f a1_0 (l0.length : Int) a2_1 a1_2 l1_3).bind fun t323 => ((paroleref04_Check.f kj56 a1_0 (l0.length : Int) a2_1 a1_2 l1_3).bind fun t324 => (parolelaw04_MerkleMatchesReference.j3 kj56 true (l0.length : Int) a2_1 (t323 != t324) a1_0 l1_1 a1_2 l1_3 (rd l0 a2_1) t307))) else (parolelaw04_MerkleMatchesReference.j3 kj56 true (l0.length : Int) a2_1 true a1_0 l1_1 a1_2 l1_3 (rd l0 a2_1) t307)))) else (none)) else (none)) = some r := by rw [if_pos rfl] at H; exact H
           clear H
           have H := H1
           clear H1
           by_cases c84 : 0 ≤ a2_1
           ·
            rw [if_pos c84] at H
            have c84b0 : decide (0 ≤ a2_1) = true := decide_eq_true c84
            clear c84
            by_cases c85 : a2_1 < (l0.length : Int)
            ·
             rw [if_pos c85] at H
             have c85b0 : decide (a2_1 < (l0.length : Int)) = true := decide_eq_true c85
             clear c85
             have HC86 := Aside0.mk H
             clear H
             try go_wp2
             have n0_ := Aside0.mk (Kd.R_drew HO_316000.out)
             have n1_ := Aside0.mk (Kd.R_drew HO_317000.out)
             have n2_ := Aside0.mk (blk_drew BK303.out)
             have n3_ := Aside0.mk (blk_drew BK304.out)
             have n4_ := Aside0.mk (blk_drew BK315.out)
             have n5_ := Aside0.mk (blk_drew BK316.out)
             have n6_ := Aside0.mk (blk_drew BK319.out)
             have n7_ := Aside0.mk (below_drew1 HB.out)
             clear HO_316000
             clear HO_317000
             clear BK303
             clear BK304
             clear BK315
             clear BK316
             clear BK319
             clear HB
             have HO_316000 := n0_
             have HO_317000 := n1_
             have BK303 := n2_
             have BK304 := n3_
             have BK315 := n4_
             have BK316 := n5_
             have BK319 := n6_
             have HB := n7_
             clear n0_ n1_ n2_ n3_ n4_ n5_ n6_ n7_
             have p320 : 0 ≤ (a2_1 : Int) := of_decide_eq_true (by first | (with_reducible assumption) | assumption)
             have q320 : a2_1 < (l0.length : Int) := of_decide_eq_true (by first | (with_reducible assumption) | assumption)
             obtain ⟨ad320, e320, hx320_0⟩ := Kd.at_int HR0.out a2_1 p320 q320
             have hw320_0 := hx320_0
             cases e320
             replace hx320_0 := (HB.out.cell (World.block_lt_of_cell? w _ hx320_0)).trans hx320_0
             replace p320 := eq_true p320
             replace q320 := eq_true q320
             refine start_ (n := 8) (S := fun w' => w'.cell? ⟨gb315, 0, none⟩ = some (.slice Ao26 t307.length co26) ∧ w'.cell? ⟨gb315, 1, none⟩ = some (.int .i64 t310) ∧ w'.cell? (ad320.add (a2_1).toNat) = some (.int .u64 (rd l0 a2_1))) (ds := []) #[false, false, false, false, false, false, false, false] (by kernel_rfl) rfl rfl ⟨(blk_cell BK315.out 0).trans rfl, (blk_cell BK315.out 1).trans rfl, ((HB.out.cell (World.block_lt_of_cell? w _ hw320_0)).trans hw320_0)⟩ (fun hHeld => ?_); refine with_tabW parolelaw04_MerkleMatchesReference.tab13 parolelaw04_MerkleMatchesReference.bits13 (fun HT_ HW_ => ?_)
             generalize wc.drew = w87 at HO_316000 HO_317000 BK303 BK304 BK315 BK316 BK319 HB hx320_0 hHeld ⊢
             refine pure_ (i := 0) (N := some 80) (v := ?_) (a' := ?_) (bl_14 8 1) rfl rfl (any_of HT_.out (by kernel_rfl)) (fun _ _ _ h => h) (Or.inl ⟨by rfl, ?_⟩) ?_ ?_; rotate_left; (· intro w'; go_simp; with_reducible rfl); rotate_left; (· simp only [Act.put, setIfInBounds_toArray, set_cons_zero, set_cons_succ, i64_w, i32_w]; rfl)
             refine pure_ (i := 1) (N := some 81) (v := ?_) (a' := ?_) (bl_14 8 3) rfl rfl (any_of HT_.out (by kernel_rfl)) (fun _ _ _ h => h) (Or.inl ⟨by rfl, ?_⟩) ?_ ?_; rotate_left; (· intro w'; go_simp; with_reducible rfl); rotate_left; (· simp only [Act.put, setIfInBounds_toArray, set_cons_zero, set_cons_succ, i64_w, i32_w]; rfl)
             refine pure_ (i := 2) (N := some 82) (v := ?_) (a' := ?_) (bl_14 8 7) rfl rfl (any_of HT_.out (by kernel_rfl)) (fun _ _ _ h => h) (Or.inl ⟨by rfl, ?_⟩) ?_ ?_; rotate_left; (· intro w'; go_simp; with_reducible rfl); rotate_left; (· simp only [Act.put, setIfInBounds_toArray, set_cons_zero, set_cons_succ, i64_w, i32_w]; rfl)
             refine pure_ (i := 4) (N := some 84) (v := ?_) (a' := ?_) (bl_14 8 23) rfl rfl (any_of HT_.out (by kernel_rfl)) (fun _ _ _ h => h) (Or.inl ⟨by rfl, ?_⟩) ?_ ?_; rotate_left; (· intro w'; go_simp; with_reducible rfl); rotate_left; (· simp only [Act.put, setIfInBounds_toArray, set_cons_zero, set_cons_succ, i64_w, i32_w]; rfl)
             refine take_ (i := 3) (N := some 83) (v := ?_) (a' := ?_) (bl_14 8 31) rfl rfl (take_ofW HT_.out HW_.out (by kernel_rfl)) (fun _ _ _ h => h) (Or.inl ⟨by rfl, ?_⟩) hHeld ?_ ?_; rotate_left; (· rintro w' ⟨s0, s1, s2⟩; go_simp; with_reducible rfl); rotate_left; (· simp only [Act.put, setIfInBounds_toArray, set_cons_zero, set_cons_succ, i64_w, i32_w]; rfl)
             refine take_ (i := 5) (N := some 85) (v := ?_) (a' := ?_) (bl_14 8 63) rfl rfl (take_ofW HT_.out HW_.out (by kernel_rfl)) (fun _ _ _ h => h) (Or.inl ⟨by rfl, ?_⟩) hHeld ?_ ?_; rotate_left; (· rintro w' ⟨s0, s1, s2⟩; go_simp; with_reducible rfl); rotate_left; (· simp only [Act.put, setIfInBounds_toArray, set_cons_zero, set_cons_succ, i64_w, i32_w]; rfl)
             refine pure_ (i := 6) (N := some 86) (v := ?_) (a' := ?_) (bl_14 8 127) rfl rfl (any_of HT_.out (by kernel_rfl)) (fun _ _ _ h => h) (Or.inl ⟨by rfl, ?_⟩) ?_ ?_; rotate_left; (· intro w'; go_simp; with_reducible rfl); rotate_left; (· simp only [Act.put, setIfInBounds_toArray, set_cons_zero, set_cons_succ, i64_w, i32_w]; rfl)
             refine one_ (i := 7) (N := none) (bl_14 8 255) rfl rfl (one_of HT_.out (by kernel_rfl)) (by decide) (fun K hK => ?_)
             have hs88 : w87.cell? ⟨gb319, 0, none⟩ = some (.int .u64 a1_0) := (blk_cell BK319.out 0).trans rfl
             have hfs88 := blk_frozen BK319.out 0
             have hns88_0 := NB303_319.out
             have hns88_1 := NB304_319.out
             have hns88_2 := NB315_319.out
             have hns88_3 := NB316_319.out
             have hms88_0 := NB319_303.out
             have hms88_1 := NB319_304.out
             have hms88_2 := NB319_315.out
             have hms88_3 := NB319_316.out
             have hs89 : w87.cell? ⟨gb319, 1, none⟩ = some (.slice A1_1 l1_1.length c1_1) := (blk_cell BK319.out 1).trans rfl
             have hfs89 := blk_frozen BK319.out 1
             have hns89_0 := NB303_319.out
             have hns89_1 := NB304_319.out
             have hns89_2 := NB315_319.out
             have hns89_3 := NB316_319.out
             have hms89_0 := NB319_303.out
             have hms89_1 := NB319_304.out
             have hms89_2 := NB319_315.out
             have hms89_3 := NB319_316.out
             refine skip_ (w1 := ?_) (by rfl) rfl ?_ ?_
             rotate_left
             ·
              go_simp
              rfl
             refine hK.out _ _ ⟨((cell_far (p := ⟨gb319, _, none⟩) NB315_319.out _).trans (((cell_far (p := ⟨gb319, _, none⟩) NB315_319.out _).trans (hHeld.1)))), ((cell_far (p := ⟨gb319, _, none⟩) NB315_319.out _).trans (((cell_far (p := ⟨gb319, _, none⟩) NB315_319.out _).trans (hHeld.2.1)))), ((cell_far (p := ⟨gb319, _, none⟩) (by first | exact Nat.ne_of_lt (Nat.lt_of_lt_of_le (by have := World.block_lt_of_cell? _ _ hw320_0; first | rwa [add_block] at this | exact this) GW319.out) | (rw [add_block]; exact Nat.ne_of_lt (Nat.lt_of_lt_of_le (by have := World.block_lt_of_cell? _ _ hw320_0; first | rwa [add_block] at this | exact this) GW319.out)) | (show (Addr.add _ _).block ≠ _; rw [add_block]; exact Nat.ne_of_lt (Nat.lt_of_lt_of_le (by have := World.block_lt_of_cell? _ _ hw320_0; first | rwa [add_block] at this | exact this) GW319.out)) | (dsimp only; exact Nat.ne_of_lt (Nat.lt_of_lt_of_le (by have := World.block_lt_of_cell? _ _ hw320_0; first | rwa [add_block] at this | exact this) GW319.out))) _).trans (((cell_far (p := ⟨gb319, _, none⟩) (by first | exact Nat.ne_of_lt (Nat.lt_of_lt_of_le (by have := World.block_lt_of_cell? _ _ hw320_0; first | rwa [add_block] at this | exact this) GW319.out) | (rw [add_block]; exact Nat.ne_of_lt (Nat.lt_of_lt_of_le (by have := World.block_lt_of_cell? _ _ hw320_0; first | rwa [add_block] at this | exact this) GW319.out)) | (show (Addr.add _ _).block ≠ _; rw [add_block]; exact Nat.ne_of_lt (Nat.lt_of_lt_of_le (by have := World.block_lt_of_cell? _ _ hw320_0; first | rwa [add_block] at this | exact this) GW319.out)) | (dsimp only; exact Nat.ne_of_lt (Nat.lt_of_lt_of_le (by have := World.block_lt_of_cell? _ _ hw320_0; first | rwa [add_block] at this | exact this) GW319.out))) _).trans (hHeld.2.2))))⟩ (fun hHeld => ?_)
             clear hK K
             refine done_ (done_of HT_.out (by kernel_rfl)) ?_
             go_upto_region 15 with (fail)
             go_cut [118] (fun v118 wc => ∃ (kq : Nat) (x118_85 : Bool), v118 = .bool x118_85 ∧ Aside0 (parolelaw04_MerkleMatchesReference.j3 kq true (l0.length : Int) a2_1 x118_85 a1_0 l1_1 a1_2 l1_3 (rd l0 a2_1) t307 = some r) ∧ Aside0 (kq ≤ kj56) ∧ Aside0 (Kd.R (Kd.int .u64) 22 wc w.heap.size (fun k_ => some k_ ≠ ((.slice Ao31 t311.length co31) : Value).ownBlock) (.slice Ao26 t307.length co26) t307) ∧ Aside0 (Kd.R (Kd.int .u64) 22 wc w.heap.size (fun k_ => some k_ ≠ ((.slice Ao26 t307.length co26) : Value).ownBlock ∧ some k_ ≠ ((.slice Ao26 t307.length co26) : Value).ownBlock) (.slice Ao31 t311.length co31) t311) ∧ Aside0 (Kd.R (Kd.int .u64) 22 wc w.heap.size (fun k_ => some k_ ≠ ((.slice Ao31 t311.length co31) : Value).ownBlock) (.slice Ao26 t307.length co26) t307) ∧ Aside0 (wc.heap[gb303]? = some (.cells #[.int .u64 a1_0, (.slice A1_1 l1_1.length c1_1), .int .u64 a1_2, (.slice A1_3 l1_3.length c1_3)] 57 (0, 0))) ∧ Aside0 (wc.heap[gb304]? = some (.cells #[.int .i64 a2_0, .int .i64 a2_1, .int .i64 a2_2] 58 (0, 0))) ∧ Aside0 (wc.heap[gb315]? = some (.cells #[(.slice Ao26 t307.length co26), .int .i64 t310] 46 (0, 0))) ∧ Aside0 (wc.heap[gb316]? = some (.cells #[(.slice Ao31 t311.length co31), .int .i64 t314] 46 (0, 0))) ∧ Aside0 (wc.heap[gb319]? = some (.cells #[.int .u64 (rd l0 a2_1), (.slice Ao26 t307.length co26)] 50 (0, 0))) ∧ Aside0 (Below w.heap.size w wc))
             case first =>
              have H := HC86.out
              clear HC86
              replace H := Option.bind_eq_some_iff.mp H
              obtain ⟨t321, A900, H⟩ := H
              replace H : ((paroleref04_Check.f kj56 t306 (l0.length : Int) a2_1 (rd l0 a2_1) t307).bind fun t322 => (if t321 = t322 then ((parolelaw04_check.f a1_0 (l0.length : Int) a2_1 a1_2 l1_3).bind fun t323 => ((paroleref04_Check.f kj56 a1_0 (l0.length : Int) a2_1 a1_2 l1_3).bind fun t324 => (parolelaw04_MerkleMatchesReference.j3 kj56 true (l0.length : Int) a2_1 (t323 != t324) a1_0 l1_1 a1_2 l1_3 (rd l0 a2_1) t307))) else (parolelaw04_MerkleMatchesReference.j3 kj56 true (l0.length : Int) a2_1 true a1_0 l1_1 a1_2 l1_3 (rd l0 a2_1) t307))) = some r := H
              have A90 := Aside0.mk A900
              clear A900
              replace H := Option.bind_eq_some_iff.mp H
              obtain ⟨t322, A910, H⟩ := H
              replace H : (if t321 = t322 then ((parolelaw04_check.f a1_0 (l0.length : Int) a2_1 a1_2 l1_3).bind fun t323 => ((paroleref04_Check.f kj56 a1_0 (l0.length : Int) a2_1 a1_2 l1_3).bind fun t324 => (parolelaw04_MerkleMatchesReference.j3 kj56 true (l0.length : Int) a2_1 (t323 != t324) a1_0 l1_1 a1_2 l1_3 (rd l0 a2_1) t307))) else (parolelaw04_MerkleMatchesReference.j3 kj56 true (l0.length : Int) a2_1 true a1_0 l1_1 a1_2 l1_3 (rd l0 a2_1) t307)) = some r := H
              have A91 := Aside0.mk A910
              clear A910
              by_cases c92 : t321 = t322
              ·
               rw [if_pos c92] at H
               have c92b0 : (t321 == t322) = true := beq_iff_eq.mpr c92
               have c92b1 : (t321 != t322) = false := bne_eq_false_iff_eq.mpr c92
               clear c92
               (first | rw [c92b0] | (simp only [i64_w, i32_w]; rw [c92b0]) | skip)
               replace H := Option.bind_eq_some_iff.mp H
               obtain ⟨t323, A930, H⟩ := H
               replace H : ((paroleref04_Check.f kj56 a1_0 (l0.length : Int) a2_1 a1_2 l1_3).bind fun t324 => (parolelaw04_MerkleMatchesReference.j3 kj56 true (l0.length : Int) a2_1 (t323 != t324) a1_0 l1_1 a1_2 l1_3 (rd l0 a2_1) t307)) = some r := H
               have A93 := Aside0.mk A930
               clear A930
               replace H := Option.bind_eq_some_iff.mp H
               obtain ⟨t324, A940, H⟩ := H
               replace H : (parolelaw04_MerkleMatchesReference.j3 kj56 true (l0.length : Int) a2_1 (t323 != t324) a1_0 l1_1 a1_2 l1_3 (rd l0 a2_1) t307) = some r := H
               have A94 := Aside0.mk A940
               clear A940
               have H' := Aside0.mk H
               clear H
               try go_wp2
               have n0_ : Aside0 (Kd.R (Kd.int .u64) 22 ((w87.setCell ⟨gb319, 0, none⟩ (.int .u64 (rd l0 a2_1))).setCell ⟨gb319, 1, none⟩ (.slice Ao26 t307.length co26)) w.heap.size (fun k_ => some k_ ≠ (.slice Ao31 t311.length co31 : Value).ownBlock) (.slice Ao26 t307.length co26) t307) := ⟨by (with_reducible repeat (first | apply Kd.R_alloc | apply Kd.R_drewN | apply Kd.R_drew)); exact Kd.R_mono (Kd.R_far (p := ⟨gb319, 1, none⟩) (Kd.R_far (p := ⟨gb319, 0, none⟩) (Kd.R_types HO_316000.out BK319.out (by decide)) (fun _ hk => by first | exact hk.2 | exact hk | exact ⟨hk.2, hk.1⟩ | simp_all) (.int .u64 (rd l0 a2_1))) (fun _ hk => by first | exact hk.2 | exact hk | exact ⟨hk.2, hk.1⟩ | simp_all) (.slice Ao26 t307.length co26)) (fun _ hk => by first | exact hk.1 | exact hk | exact ⟨hk.2, hk.1⟩ | simp_all)⟩
               have n1_ : Aside0 (Kd.R (Kd.int .u64) 22 ((w87.setCell ⟨gb319, 0, none⟩ (.int .u64 (rd l0 a2_1))).setCell ⟨gb319, 1, none⟩ (.slice Ao26 t307.length co26)) w.heap.size (fun k_ => some k_ ≠ (.slice Ao26 t307.length co26 : Value).ownBlock) (.slice Ao31 t311.length co31) t311) := ⟨by (with_reducible repeat (first | apply Kd.R_alloc | apply Kd.R_drewN | apply Kd.R_drew)); exact Kd.R_mono (Kd.R_far (p := ⟨gb319, 1, none⟩) (Kd.R_far (p := ⟨gb319, 0, none⟩) (Kd.R_types HO_317000.out BK319.out (by decide)) (fun _ hk => by first | exact hk.2 | exact hk | exact ⟨hk.2, hk.1⟩ | simp_all) (.int .u64 (rd l0 a2_1))) (fun _ hk => by first | exact hk.2 | exact hk | exact ⟨hk.2, hk.1⟩ | simp_all) (.slice Ao26 t307.length co26)) (fun _ hk => by first | exact hk.1 | exact hk | exact ⟨hk.2, hk.1⟩ | simp_all)⟩
               have n2_ : Aside0 (((w87.setCell ⟨gb319, 0, none⟩ (.int .u64 (rd l0 a2_1))).setCell ⟨gb319, 1, none⟩ (.slice Ao26 t307.length co26)).heap[gb303]? = some (.cells #[.int .u64 a1_0, .slice A1_1 l1_1.length c1_1, .int .u64 a1_2, .slice A1_3 l1_3.length c1_3] 57 (0, 0))) := ⟨by (with_reducible repeat (first | refine blk_drewN ?_ _ | refine blk_drew ?_ | refine blk_alloc ?_ _)); refine blk_far ?_ NB303_319.out _; (with_reducible repeat (first | refine blk_drewN ?_ _ | refine blk_drew ?_ | refine blk_alloc ?_ _)); refine blk_far ?_ NB303_319.out _; (with_reducible repeat (first | refine blk_drewN ?_ _ | refine blk_drew ?_ | refine blk_alloc ?_ _)); exact BK303.out⟩
               have n3_ : Aside0 (((w87.setCell ⟨gb319, 0, none⟩ (.int .u64 (rd l0 a2_1))).setCell ⟨gb319, 1, none⟩ (.slice Ao26 t307.length co26)).heap[gb304]? = some (.cells #[.int .i64 a2_0, .int .i64 a2_1, .int .i64 a2_2] 58 (0, 0))) := ⟨by (with_reducible repeat (first | refine blk_drewN ?_ _ | refine blk_drew ?_ | refine blk_alloc ?_ _)); refine blk_far ?_ NB304_319.out _; (with_reducible repeat (first | refine blk_drewN ?_ _ | refine blk_drew ?_ | refine blk_alloc ?_ _)); refine blk_far ?_ NB304_319.out _; (with_reducible repeat (first | refine blk_drewN ?_ _ | refine blk_drew ?_ | refine blk_alloc ?_ _)); exact BK304.out⟩
               have n4_ : Aside0 (((w87.setCell ⟨gb319, 0, none⟩ (.int .u64 (rd l0 a2_1))).setCell ⟨gb319, 1, none⟩ (.slice Ao26 t307.length co26)).heap[gb315]? = some (.cells #[.slice Ao26 t307.length co26, .int .i64 t310] 46 (0, 0))) := ⟨by (with_reducible repeat (first | refine blk_drewN ?_ _ | refine blk_drew ?_ | refine blk_alloc ?_ _)); refine blk_far ?_ NB315_319.out _; (with_reducible repeat (first | refine blk_drewN ?_ _ | refine blk_drew ?_ | refine blk_alloc ?_ _)); refine blk_far ?_ NB315_319.out _; (with_reducible repeat (first | refine blk_drewN ?_ _ | refine blk_drew ?_ | refine blk_alloc ?_ _)); exact BK315.out⟩
               have n5_ : Aside0 (((w87.setCell ⟨gb319, 0, none⟩ (.int .u64 (rd l0 a2_1))).setCell ⟨gb319, 1, none⟩ (.slice Ao26 t307.length co26)).heap[gb316]? = some (.cells #[.slice Ao31 t311.length co31, .int .i64 t314] 46 (0, 0))) := ⟨by (with_reducible repeat (first | refine blk_drewN ?_ _ | refine blk_drew ?_ | refine blk_alloc ?_ _)); refine blk_far ?_ NB316_319.out _; (with_reducible repeat (first | refine blk_drewN ?_ _ | refine blk_drew ?_ | refine blk_alloc ?_ _)); refine blk_far ?_ NB316_319.out _; (with_reducible repeat (first | refine blk_drewN ?_ _ | refine blk_drew ?_ | refine blk_alloc ?_ _)); exact BK316.out⟩
               have n6_ : Aside0 (((w87.setCell ⟨gb319, 0, none⟩ (.int .u64 (rd l0 a2_1))).setCell ⟨gb319, 1, none⟩ (.slice Ao26 t307.length co26)).heap[gb319]? = some (.cells #[.int .u64 (rd l0 a2_1), .slice Ao26 t307.length co26] 50 (0, 0))) := ⟨by (with_reducible repeat (first | refine blk_drewN ?_ _ | refine blk_drew ?_ | refine blk_alloc ?_ _)); refine blk_put (cs := #[.int .u64 (rd l0 a2_1), .slice A1_1 l1_1.length c1_1]) ?_ 1 _ rfl; (with_reducible repeat (first | refine blk_drewN ?_ _ | refine blk_drew ?_ | refine blk_alloc ?_ _)); refine blk_put (cs := #[.int .u64 a1_0, .slice A1_1 l1_1.length c1_1]) ?_ 0 _ rfl; (with_reducible repeat (first | refine blk_drewN ?_ _ | refine blk_drew ?_ | refine blk_alloc ?_ _)); exact BK319.out⟩
               have n7_ : Aside0 (Below w.heap.size w ((w87.setCell ⟨gb319, 0, none⟩ (.int .u64 (rd l0 a2_1))).setCell ⟨gb319, 1, none⟩ (.slice Ao26 t307.length co26))) := ⟨by repeat (first | (with_reducible first | exact HB.out | apply below_alloc | apply pw_below_drewN | apply below_drew1 | refine below_set ?_ GE303.out | refine below_set ?_ GE304.out | refine below_set ?_ GE315.out | refine below_set ?_ GE316.out | refine below_set ?_ GE319.out) | exact HB.out)⟩
               (try clear HO_316000)
               (try clear HO_317000)
               (try clear BK303)
               (try clear BK304)
               (try clear BK315)
               (try clear BK316)
               (try clear BK319)
               (try clear HB)
               generalize ((w87.setCell ⟨gb319, 0, none⟩ (.int .u64 (rd l0 a2_1))).setCell ⟨gb319, 1, none⟩ (.slice Ao26 t307.length co26)) = w95 at n0_ n1_ n2_ n3_ n4_ n5_ n6_ n7_ ⊢
               have HO_316000 := n0_
               have HO_317000 := n1_
               have BK303 := n2_
               have BK304 := n3_
               have BK315 := n4_
               have BK316 := n5_
               have BK319 := n6_
               have HB := n7_
               clear n0_ n1_ n2_ n3_ n4_ n5_ n6_ n7_
               have n0_ := Aside0.mk (Kd.R_drew HO_316000.out)
               have n1_ := Aside0.mk (Kd.R_drew HO_317000.out)
               have n2_ := Aside0.mk (blk_drew BK303.out)
               have n3_ := Aside0.mk (blk_drew BK304.out)
               have n4_ := Aside0.mk (blk_drew BK315.out)
               have n5_ := Aside0.mk (blk_drew BK316.out)
               have n6_ := Aside0.mk (blk_drew BK319.out)
               have n7_ := Aside0.mk (below_drew1 HB.out)
               clear HO_316000
               clear HO_317000
               clear BK303
               clear BK304
               clear BK315
               clear BK316
               clear BK319
               clear HB
               have HO_316000 := n0_
               have HO_317000 := n1_
               have BK303 := n2_
               have BK304 := n3_
               have BK315 := n4_
               have BK316 := n5_
               have BK319 := n6_
               have HB := n7_
               clear n0_ n1_ n2_ n3_ n4_ n5_ n6_ n7_
               refine start_ (n := 30) (S := fun w' => w'.cell? ⟨gb319, 0, none⟩ = some (.int .u64 (rd l0 a2_1)) ∧ w'.cell? ⟨gb319, 1, none⟩ = some (.slice Ao26 t307.length co26) ∧ w'.cell? ⟨gb303, 0, none⟩ = some (.int .u64 a1_0) ∧ w'.cell? ⟨gb303, 1, none⟩ = some (.slice A1_1 l1_1.length c1_1) ∧ w'.cell? ⟨gb303, 2, none⟩ = some (.int .u64 a1_2) ∧ w'.cell? ⟨gb303, 3, none⟩ = some (.slice A1_3 l1_3.length c1_3)) (ds := []) #[false, false, false, false, false, false, false, false, false, false, false, false, false, false, false, false, false, false, false, false, false, false, false, false, false, false, false, false, false, false] (by kernel_rfl) rfl rfl ⟨(blk_cell BK319.out 0).trans rfl, (blk_cell BK319.out 1).trans rfl, (blk_cell BK303.out 0).trans rfl, (blk_cell BK303.out 1).trans rfl, (blk_cell BK303.out 2).trans rfl, (blk_cell BK303.out 3).trans rfl⟩ (fun hHeld => ?_); refine with_tabW parolelaw04_MerkleMatchesReference.tab15 parolelaw04_MerkleMatchesReference.bits15 (fun HT_ HW_ => ?_)
               generalize w95.drew = w96 at HO_316000 HO_317000 BK303 BK304 BK315 BK316 BK319 HB hHeld ⊢
               refine pure_ (i := 0) (N := some 89) (v := ?_) (a' := ?_) (bl_14 30 1) rfl rfl (any_of HT_.out (by kernel_rfl)) (fun _ _ _ h => h) (Or.inl ⟨by rfl, ?_⟩) ?_ ?_; rotate_left; (· intro w'; go_simp; with_reducible rfl); rotate_left; (· simp only [Act.put, setIfInBounds_toArray, set_cons_zero, set_cons_succ, i64_w, i32_w]; rfl)
               refine pure_ (i := 1) (N := some 90) (v := ?_) (a' := ?_) (bl_14 30 3) rfl rfl (any_of HT_.out (by kernel_rfl)) (fun _ _ _ h => h) (Or.inl ⟨by rfl, ?_⟩) ?_ ?_; rotate_left; (· intro w'; go_simp; with_reducible rfl); rotate_left; (· simp only [Act.put, setIfInBounds_toArray, set_cons_zero, set_cons_succ, i64_w, i32_w]; rfl)
               refine pure_ (i := 2) (N := some 91) (v := ?_) (a' := ?_) (bl_14 30 7) rfl rfl (any_of HT_.out (by kernel_rfl)) (fun _ _ _ h => h) (Or.inl ⟨by rfl, ?_⟩) ?_ ?_; rotate_left; (· intro w'; go_simp; with_reducible rfl); rotate_left; (· simp only [Act.put, setIfInBounds_toArray, set_cons_zero, set_cons_succ, i64_w, i32_w]; rfl)
               refine pure_ (i := 5) (N := some 94) (v := ?_) (a' := ?_) (bl_14 30 39) rfl rfl (any_of HT_.out (by kernel_rfl)) (fun _ _ _ h => h) (Or.inl ⟨by rfl, ?_⟩) ?_ ?_; rotate_left; (· intro w'; go_simp; with_reducible rfl); rotate_left; (· simp only [Act.put, setIfInBounds_toArray, set_cons_zero, set_cons_succ, i64_w, i32_w]; rfl)
               refine pure_ (i := 6) (N := some 95) (v := ?_) (a' := ?_) (bl_14 30 103) rfl rfl (any_of HT_.out (by kernel_rfl)) (fun _ _ _ h => h) (Or.inl ⟨by rfl, ?_⟩) ?_ ?_; rotate_left; (· intro w'; go_simp; with_reducible rfl); rotate_left; (· simp only [Act.put, setIfInBounds_toArray, set_cons_zero, set_cons_succ, i64_w, i32_w]; rfl)
               refine pure_ (i := 7) (N := some 96) (v := ?_) (a' := ?_) (bl_14 30 231) rfl rfl (any_of HT_.out (by kernel_rfl)) (fun _ _ _ h => h) (Or.inl ⟨by rfl, ?_⟩) ?_ ?_; rotate_left; (· intro w'; go_simp; with_reducible rfl); rotate_left; (· simp only [Act.put, setIfInBounds_toArray, set_cons_zero, set_cons_succ, i64_w, i32_w]; rfl)
               refine take_ (i := 3) (N := some 92) (v := ?_) (a' := ?_) (bl_14 30 239) rfl rfl (take_ofW HT_.out HW_.out (by kernel_rfl)) (fun _ _ _ h => h) (Or.inl ⟨by rfl, ?_⟩) hHeld ?_ ?_; rotate_left; (· rintro w' ⟨s0, s1, s2, s3, s4, s5⟩; go_simp; with_reducible rfl); rotate_left; (· simp only [Act.put, setIfInBounds_toArray, set_cons_zero, set_cons_succ, i64_w, i32_w]; rfl)
               refine take_ (i := 8) (N := some 97) (v := ?_) (a' := ?_) (bl_14 30 495) rfl rfl (take_ofW HT_.out HW_.out (by kernel_rfl)) (fun _ _ _ h => h) (Or.inl ⟨by rfl, ?_⟩) hHeld ?_ ?_; rotate_left; (· rintro w' ⟨s0, s1, s2, s3, s4, s5⟩; go_simp; with_reducible rfl); rotate_left; (· simp only [Act.put, setIfInBounds_toArray, set_cons_zero, set_cons_succ, i64_w, i32_w]; rfl)
               refine one_ (i := 4) (N := some 93) (bl_14 30 511) rfl rfl (one_of HT_.out (by kernel_rfl)) (by decide) (fun K hK => ?_)
               refine goes_ Try.func35 (by kernel_rfl) rfl #[.int .u64 t306, .int .i64 (l0.length : Int), .int .i64 a2_1, .agg #[.int .u64 (rd l0 a2_1), .slice Ao26 t307.length co26]] (by rfl) rfl rfl (by (try simp only [map_toArray, map_cons, map_nil]); first | done | rfl) ?_
               with_reducible refine (parolelaw04_check.calls t306 (l0.length : Int) a2_1 (rd l0 a2_1) _ _ t307 t321 _ ?side1 ?side2 A90.out).mono ?_
               (case side1 => repeat (first | exact (Kd.R_reads' HO_316000.out).2.2 | (with_reducible refine Kd.C_alloc ?_ _) | (with_reducible refine Kd.C_drewN ?_ _) | (with_reducible refine Kd.C_drew ?_)))
               (case side2 => exact (Kd.R_reads' HO_316000.out).2.1)
               rintro e w97 ⟨rfl, hb⟩
               refine ⟨_, rfl, ?_⟩
               have n0_ := Aside0.mk (Kd.R_below (by (with_reducible repeat (first | apply Kd.R_alloc | apply Kd.R_drewN | apply Kd.R_drew)); exact HO_316000.out) hb)
               have n1_ := Aside0.mk (Kd.R_below (by (with_reducible repeat (first | apply Kd.R_alloc | apply Kd.R_drewN | apply Kd.R_drew)); exact HO_317000.out) hb)
               have n2_ := Aside0.mk (blk_below (g := gb303) (o := .cells #[.int .u64 a1_0, .slice A1_1 l1_1.length c1_1, .int .u64 a1_2, .slice A1_3 l1_3.length c1_3] 57 (0, 0)) (by (with_reducible repeat (first | refine blk_drewN ?_ _ | refine blk_drew ?_ | refine blk_alloc ?_ _)); exact BK303.out) hb)
               have n3_ := Aside0.mk (blk_below (g := gb304) (o := .cells #[.int .i64 a2_0, .int .i64 a2_1, .int .i64 a2_2] 58 (0, 0)) (by (with_reducible repeat (first | refine blk_drewN ?_ _ | refine blk_drew ?_ | refine blk_alloc ?_ _)); exact BK304.out) hb)
               have n4_ := Aside0.mk (blk_below (g := gb315) (o := .cells #[.slice Ao26 t307.length co26, .int .i64 t310] 46 (0, 0)) (by (with_reducible repeat (first | refine blk_drewN ?_ _ | refine blk_drew ?_ | refine blk_alloc ?_ _)); exact BK315.out) hb)
               have n5_ := Aside0.mk (blk_below (g := gb316) (o := .cells #[.slice Ao31 t311.length co31, .int .i64 t314] 46 (0, 0)) (by (with_reducible repeat (first | refine blk_drewN ?_ _ | refine blk_drew ?_ | refine blk_alloc ?_ _)); exact BK316.out) hb)
               have n6_ := Aside0.mk (blk_below (g := gb319) (o := .cells #[.int .u64 (rd l0 a2_1), .slice Ao26 t307.length co26] 50 (0, 0)) (by (with_reducible repeat (first | refine blk_drewN ?_ _ | refine blk_drew ?_ | refine blk_alloc ?_ _)); exact BK319.out) hb)
               have n7_ := Aside0.mk (below_step (by repeat (first | (with_reducible first | exact HB.out | apply below_alloc | apply pw_below_drewN | apply below_drew1 | refine below_set ?_ GE303.out | refine below_set ?_ GE304.out | refine below_set ?_ GE315.out | refine below_set ?_ GE316.out | refine below_set ?_ GE319.out) | exact HB.out)) hb)
               clear HO_316000
               clear HO_317000
               clear BK303
               clear BK304
               clear BK315
               clear BK316
               clear BK319
               clear HB
               have HO_316000 := n0_
               have HO_317000 := n1_
               have BK303 := n2_
               have BK304 := n3_
               have BK315 := n4_
               have BK316 := n5_
               have BK319 := n6_
               have HB := n7_
               clear n0_ n1_ n2_ n3_ n4_ n5_ n6_ n7_
               (try clear hb)
               (try clear hb2)
               (try clear hk)
               (try clear hi)
               refine hK.out _ _ ⟨(blk_cell BK319.out 0).trans rfl, (blk_cell BK319.out 1).trans rfl, (blk_cell BK303.out 0).trans rfl, (blk_cell BK303.out 1).trans rfl, (blk_cell BK303.out 2).trans rfl, (blk_cell BK303.out 3).trans rfl⟩ (fun hHeld => ?_)
               clear hK K
               refine norm_ (a' := ?_) ?_ ?_
               rotate_left
               ·
                show Act.put _ (some 93) _ = _
                simp only [Act.put, setIfInBounds_toArray, set_cons_zero, set_cons_succ, i64_w, i32_w]
                rfl
               refine one_ (i := 9) (N := some 98) (bl_14 30 1023) rfl rfl (one_of HT_.out (by kernel_rfl)) (by decide) (fun K hK => ?_)
               refine goes_ Try.func39 (by kernel_rfl) rfl #[.int .u64 t306, .int .i64 (l0.length : Int), .int .i64 a2_1, .agg #[.int .u64 (rd l0 a2_1), .slice Ao26 t307.length co26]] (by rfl) rfl rfl (by (try simp only [map_toArray, map_cons, map_nil]); first | done | rfl) ?_
               with_reducible refine (paroleref04_Check.calls kj56 t306 (l0.length : Int) a2_1 (rd l0 a2_1) _ _ t307 t322 _ ?side1 ?side2 A91.out).mono ?_
               (case side1 => repeat (first | exact (Kd.R_reads' HO_316000.out).2.2 | (with_reducible refine Kd.C_alloc ?_ _) | (with_reducible refine Kd.C_drewN ?_ _) | (with_reducible refine Kd.C_drew ?_)))
               (case side2 => exact (Kd.R_reads' HO_316000.out).2.1)
               rintro e w98 ⟨rfl, hb⟩
               refine ⟨_, rfl, ?_⟩
               have n0_ := Aside0.mk (Kd.R_below (by (with_reducible repeat (first | apply Kd.R_alloc | apply Kd.R_drewN | apply Kd.R_drew)); exact HO_316000.out) hb)
               have n1_ := Aside0.mk (Kd.R_below (by (with_reducible repeat (first | apply Kd.R_alloc | apply Kd.R_drewN | apply Kd.R_drew)); exact HO_317000.out) hb)
               have n2_ := Aside0.mk (blk_below (g := gb303) (o := .cells #[.int .u64 a1_0, .slice A1_1 l1_1.length c1_1, .int .u64 a1_2, .slice A1_3 l1_3.length c1_3] 57 (0, 0)) (by (with_reducible repeat (first | refine blk_drewN ?_ _ | refine blk_drew ?_ | refine blk_alloc ?_ _)); exact BK303.out) hb)
               have n3_ := Aside0.mk (blk_below (g := gb304) (o := .cells #[.int .i64 a2_0, .int .i64 a2_1, .int .i64 a2_2] 58 (0, 0)) (by (with_reducible repeat (first | refine blk_drewN ?_ _ | refine blk_drew ?_ | refine blk_alloc ?_ _)); exact BK304.out) hb)
               have n4_ := Aside0.mk (blk_below (g := gb315) (o := .cells #[.slice Ao26 t307.length co26, .int .i64 t310] 46 (0, 0)) (by (with_reducible repeat (first | refine blk_drewN ?_ _ | refine blk_drew ?_ | refine blk_alloc ?_ _)); exact BK315.out) hb)
               have n5_ := Aside0.mk (blk_below (g := gb316) (o := .cells #[.slice Ao31 t311.length co31, .int .i64 t314] 46 (0, 0)) (by (with_reducible repeat (first | refine blk_drewN ?_ _ | refine blk_drew ?_ | refine blk_alloc ?_ _)); exact BK316.out) hb)
               have n6_ := Aside0.mk (blk_below (g := gb319) (o := .cells #[.int .u64 (rd l0 a2_1), .slice Ao26 t307.length co26] 50 (0, 0)) (by (with_reducible repeat (first | refine blk_drewN ?_ _ | refine blk_drew ?_ | refine blk_alloc ?_ _)); exact BK319.out) hb)
               have n7_ := Aside0.mk (below_step (by repeat (first | (with_reducible first | exact HB.out | apply below_alloc | apply pw_below_drewN | apply below_drew1 | refine below_set ?_ GE303.out | refine below_set ?_ GE304.out | refine below_set ?_ GE315.out | refine below_set ?_ GE316.out | refine below_set ?_ GE319.out) | exact HB.out)) hb)
               clear HO_316000
               clear HO_317000
               clear BK303
               clear BK304
               clear BK315
               clear BK316
               clear BK319
               clear HB
               have HO_316000 := n0_
               have HO_317000 := n1_
               have BK303 := n2_
               have BK304 := n3_
               have BK315 := n4_
               have BK316 := n5_
               have BK319 := n6_
               have HB := n7_
               clear n0_ n1_ n2_ n3_ n4_ n5_ n6_ n7_
               (try clear hb)
               (try clear hb2)
               (try clear hk)
               (try clear hi)
               refine hK.out _ _ ⟨(blk_cell BK319.out 0).trans rfl, (blk_cell BK319.out 1).trans rfl, (blk_cell BK303.out 0).trans rfl, (blk_cell BK303.out 1).trans rfl, (blk_cell BK303.out 2).trans rfl, (blk_cell BK303.out 3).trans rfl⟩ (fun hHeld => ?_)
               clear hK K
               refine norm_ (a' := ?_) ?_ ?_
               rotate_left
               ·
                show Act.put _ (some 98) _ = _
                simp only [Act.put, setIfInBounds_toArray, set_cons_zero, set_cons_succ, i64_w, i32_w]
                rfl
               refine pure_ (i := 10) (N := some 99) (v := ?_) (a' := ?_) (bl_14 30 2047) rfl rfl (any_of HT_.out (by kernel_rfl)) (fun _ _ _ h => h) (Or.inl ⟨by rfl, ?_⟩) ?_ ?_; rotate_left; (· intro w'; go_simp; with_reducible rfl); rotate_left; (· simp only [Act.put, setIfInBounds_toArray, set_cons_zero, set_cons_succ, i64_w, i32_w]; rfl)
               refine pure_ (i := 11) (N := some 100) (v := ?_) (a' := ?_) (bl_14 30 4095) rfl rfl (any_of HT_.out (by kernel_rfl)) (fun _ _ _ h => h) (Or.inl ⟨by rfl, ?_⟩) ?_ ?_; rotate_left; (· intro w'; go_simp; with_reducible rfl); rotate_left; (· simp only [Act.put, setIfInBounds_toArray, set_cons_zero, set_cons_succ, i64_w, i32_w]; rfl)
               refine pure_ (i := 12) (N := some 101) (v := ?_) (a' := ?_) (bl_14 30 8191) rfl rfl (any_of HT_.out (by kernel_rfl)) (fun _ _ _ h => h) (Or.inl ⟨by rfl, ?_⟩) ?_ ?_; rotate_left; (· intro w'; go_simp; with_reducible rfl); rotate_left; (· simp only [Act.put, setIfInBounds_toArray, set_cons_zero, set_cons_succ, i64_w, i32_w]; rfl)
               refine pure_ (i := 13) (N := some 102) (v := ?_) (a' := ?_) (bl_14 30 16383) rfl rfl (any_of HT_.out (by kernel_rfl)) (fun _ _ _ h => h) (Or.inl ⟨by rfl, ?_⟩) ?_ ?_; rotate_left; (· intro w'; go_simp; with_reducible rfl); rotate_left; (· simp only [Act.put, setIfInBounds_toArray, set_cons_zero, set_cons_succ, i64_w, i32_w]; rfl)
               refine pure_ (i := 15) (N := some 104) (v := ?_) (a' := ?_) (bl_14 30 49151) rfl rfl (any_of HT_.out (by kernel_rfl)) (fun _ _ _ h => h) (Or.inl ⟨by rfl, ?_⟩) ?_ ?_; rotate_left; (· intro w'; go_simp; with_reducible rfl); rotate_left; (· simp only [Act.put, setIfInBounds_toArray, set_cons_zero, set_cons_succ, i64_w, i32_w]; rfl)
               refine pure_ (i := 16) (N := some 105) (v := ?_) (a' := ?_) (bl_14 30 114687) rfl rfl (any_of HT_.out (by kernel_rfl)) (fun _ _ _ h => h) (Or.inl ⟨by rfl, ?_⟩) ?_ ?_; rotate_left; (· intro w'; go_simp; with_reducible rfl); rotate_left; (· simp only [Act.put, setIfInBounds_toArray, set_cons_zero, set_cons_succ, i64_w, i32_w]; rfl)
               refine pure_ (i := 17) (N := some 106) (v := ?_) (a' := ?_) (bl_14 30 245759) rfl rfl (any_of HT_.out (by kernel_rfl)) (fun _ _ _ h => h) (Or.inl ⟨by rfl, ?_⟩) ?_ ?_; rotate_left; (· intro w'; go_simp; with_reducible rfl); rotate_left; (· simp only [Act.put, setIfInBounds_toArray, set_cons_zero, set_cons_succ, i64_w, i32_w]; rfl)
               refine pure_ (i := 20) (N := some 109) (v := ?_) (a' := ?_) (bl_14 30 1294335) rfl rfl (any_of HT_.out (by kernel_rfl)) (fun _ _ _ h => h) (Or.inl ⟨by rfl, ?_⟩) ?_ ?_; rotate_left; (· intro w'; go_simp; with_reducible rfl); rotate_left; (· simp only [Act.put, setIfInBounds_toArray, set_cons_zero, set_cons_succ, i64_w, i32_w]; rfl)
               refine pure_ (i := 21) (N := some 110) (v := ?_) (a' := ?_) (bl_14 30 3391487) rfl rfl (any_of HT_.out (by kernel_rfl)) (fun _ _ _ h => h) (Or.inl ⟨by rfl, ?_⟩) ?_ ?_; rotate_left; (· intro w'; go_simp; with_reducible rfl); rotate_left; (· simp only [Act.put, setIfInBounds_toArray, set_cons_zero, set_cons_succ, i64_w, i32_w]; rfl)
               refine pure_ (i := 23) (N := some 112) (v := ?_) (a' := ?_) (bl_14 30 11780095) rfl rfl (any_of HT_.out (by kernel_rfl)) (fun _ _ _ h => h) (Or.inl ⟨by rfl, ?_⟩) ?_ ?_; rotate_left; (· intro w'; go_simp; with_reducible rfl); rotate_left; (· simp only [Act.put, setIfInBounds_toArray, set_cons_zero, set_cons_succ, i64_w, i32_w]; rfl)
               refine pure_ (i := 24) (N := some 113) (v := ?_) (a' := ?_) (bl_14 30 28557311) rfl rfl (any_of HT_.out (by kernel_rfl)) (fun _ _ _ h => h) (Or.inl ⟨by rfl, ?_⟩) ?_ ?_; rotate_left; (· intro w'; go_simp; with_reducible rfl); rotate_left; (· simp only [Act.put, setIfInBounds_toArray, set_cons_zero, set_cons_succ, i64_w, i32_w]; rfl)
               refine pure_ (i := 25) (N := some 114) (v := ?_) (a' := ?_) (bl_14 30 62111743) rfl rfl (any_of HT_.out (by kernel_rfl)) (fun _ _ _ h => h) (Or.inl ⟨by rfl, ?_⟩) ?_ ?_; rotate_left; (· intro w'; go_simp; with_reducible rfl); rotate_left; (· simp only [Act.put, setIfInBounds_toArray, set_cons_zero, set_cons_succ, i64_w, i32_w]; rfl)
               refine take_ (i := 14) (N := some 103) (v := ?_) (a' := ?_) (bl_14 30 62128127) rfl rfl (take_ofW HT_.out HW_.out (by kernel_rfl)) (fun _ _ _ h => h) (Or.inl ⟨by rfl, ?_⟩) hHeld ?_ ?_; rotate_left; (· rintro w' ⟨s0, s1, s2, s3, s4, s5⟩; go_simp; with_reducible rfl); rotate_left; (· simp only [Act.put, setIfInBounds_toArray, set_cons_zero, set_cons_succ, i64_w, i32_w]; rfl)
               refine take_ (i := 18) (N := some 107) (v := ?_) (a' := ?_) (bl_14 30 62390271) rfl rfl (take_ofW HT_.out HW_.out (by kernel_rfl)) (fun _ _ _ h => h) (Or.inl ⟨by rfl, ?_⟩) hHeld ?_ ?_; rotate_left; (· rintro w' ⟨s0, s1, s2, s3, s4, s5⟩; go_simp; with_reducible rfl); rotate_left; (· simp only [Act.put, setIfInBounds_toArray, set_cons_zero, set_cons_succ, i64_w, i32_w]; rfl)
               refine take_ (i := 22) (N := some 111) (v := ?_) (a' := ?_) (bl_14 30 66584575) rfl rfl (take_ofW HT_.out HW_.out (by kernel_rfl)) (fun _ _ _ h => h) (Or.inl ⟨by rfl, ?_⟩) hHeld ?_ ?_; rotate_left; (· rintro w' ⟨s0, s1, s2, s3, s4, s5⟩; go_simp; with_reducible rfl); rotate_left; (· simp only [Act.put, setIfInBounds_toArray, set_cons_zero, set_cons_succ, i64_w, i32_w]; rfl)
               refine take_ (i := 26) (N := some 115) (v := ?_) (a' := ?_) (bl_14 30 133693439) rfl rfl (take_ofW HT_.out HW_.out (by kernel_rfl)) (fun _ _ _ h => h) (Or.inl ⟨by rfl, ?_⟩) hHeld ?_ ?_; rotate_left; (· rintro w' ⟨s0, s1, s2, s3, s4, s5⟩; go_simp; with_reducible rfl); rotate_left; (· simp only [Act.put, setIfInBounds_toArray, set_cons_zero, set_cons_succ, i64_w, i32_w]; rfl)
               refine one_ (i := 19) (N := some 108) (bl_14 30 134217727) rfl rfl (one_of HT_.out (by kernel_rfl)) (by decide) (fun K hK => ?_)
               refine goes_ Try.func35 (by kernel_rfl) rfl #[.int .u64 a1_0, .int .i64 (l0.length : Int), .int .i64 a2_1, .agg #[.int .u64 a1_2, .slice A1_3 l1_3.length c1_3]] (by rfl) rfl rfl (by (try simp only [map_toArray, map_cons, map_nil]); first | done | rfl) ?_
               with_reducible refine (parolelaw04_check.calls a1_0 (l0.length : Int) a2_1 a1_2 _ _ l1_3 t323 _ ?side1 ?side2 A93.out).mono ?_
               (case side1 => repeat (first | exact (Kd.C_below HR1_3.out HB.out) | (with_reducible refine Kd.C_alloc ?_ _) | (with_reducible refine Kd.C_drewN ?_ _) | (with_reducible refine Kd.C_drew ?_)))
               (case side2 => exact HC1_3.out)
               rintro e w99 ⟨rfl, hb⟩
               refine ⟨_, rfl, ?_⟩
               have n0_ := Aside0.mk (Kd.R_below (by (with_reducible repeat (first | apply Kd.R_alloc | apply Kd.R_drewN | apply Kd.R_drew)); exact HO_316000.out) hb)
               have n1_ := Aside0.mk (Kd.R_below (by (with_reducible repeat (first | apply Kd.R_alloc | apply Kd.R_drewN | apply Kd.R_drew)); exact HO_317000.out) hb)
               have n2_ := Aside0.mk (blk_below (g := gb303) (o := .cells #[.int .u64 a1_0, .slice A1_1 l1_1.length c1_1, .int .u64 a1_2, .slice A1_3 l1_3.length c1_3] 57 (0, 0)) (by (with_reducible repeat (first | refine blk_drewN ?_ _ | refine blk_drew ?_ | refine blk_alloc ?_ _)); exact BK303.out) hb)
               have n3_ := Aside0.mk (blk_below (g := gb304) (o := .cells #[.int .i64 a2_0, .int .i64 a2_1, .int .i64 a2_2] 58 (0, 0)) (by (with_reducible repeat (first | refine blk_drewN ?_ _ | refine blk_drew ?_ | refine blk_alloc ?_ _)); exact BK304.out) hb)
               have n4_ := Aside0.mk (blk_below (g := gb315) (o := .cells #[.slice Ao26 t307.length co26, .int .i64 t310] 46 (0, 0)) (by (with_reducible repeat (first | refine blk_drewN ?_ _ | refine blk_drew ?_ | refine blk_alloc ?_ _)); exact BK315.out) hb)
               have n5_ := Aside0.mk (blk_below (g := gb316) (o := .cells #[.slice Ao31 t311.length co31, .int .i64 t314] 46 (0, 0)) (by (with_reducible repeat (first | refine blk_drewN ?_ _ | refine blk_drew ?_ | refine blk_alloc ?_ _)); exact BK316.out) hb)
               have n6_ := Aside0.mk (blk_below (g := gb319) (o := .cells #[.int .u64 (rd l0 a2_1), .slice Ao26 t307.length co26] 50 (0, 0)) (by (with_reducible repeat (first | refine blk_drewN ?_ _ | refine blk_drew ?_ | refine blk_alloc ?_ _)); exact BK319.out) hb)
               have n7_ := Aside0.mk (below_step (by repeat (first | (with_reducible first | exact HB.out | apply below_alloc | apply pw_below_drewN | apply below_drew1 | refine below_set ?_ GE303.out | refine below_set ?_ GE304.out | refine below_set ?_ GE315.out | refine below_set ?_ GE316.out | refine below_set ?_ GE319.out) | exact HB.out)) hb)
               clear HO_316000
               clear HO_317000
               clear BK303
               clear BK304
               clear BK315
               clear BK316
               clear BK319
               clear HB
               have HO_316000 := n0_
               have HO_317000 := n1_
               have BK303 := n2_
               have BK304 := n3_
               have BK315 := n4_
               have BK316 := n5_
               have BK319 := n6_
               have HB := n7_
               clear n0_ n1_ n2_ n3_ n4_ n5_ n6_ n7_
               (try clear hb)
               (try clear hb2)
               (try clear hk)
               (try clear hi)
               refine hK.out _ _ ⟨(blk_cell BK319.out 0).trans rfl, (blk_cell BK319.out 1).trans rfl, (blk_cell BK303.out 0).trans rfl, (blk_cell BK303.out 1).trans rfl, (blk_cell BK303.out 2).trans rfl, (blk_cell BK303.out 3).trans rfl⟩ (fun hHeld => ?_)
               clear hK K
               refine norm_ (a' := ?_) ?_ ?_
               rotate_left
               ·
                show Act.put _ (some 108) _ = _
                simp only [Act.put, setIfInBounds_toArray, set_cons_zero, set_cons_succ, i64_w, i32_w]
                rfl
               refine one_ (i := 27) (N := some 116) (bl_14 30 268435455) rfl rfl (one_of HT_.out (by kernel_rfl)) (by decide) (fun K hK => ?_)
               refine goes_ Try.func39 (by kernel_rfl) rfl #[.int .u64 a1_0, .int .i64 (l0.length : Int), .int .i64 a2_1, .agg #[.int .u64 a1_2, .slice A1_3 l1_3.length c1_3]] (by rfl) rfl rfl (by (try simp only [map_toArray, map_cons, map_nil]); first | done | rfl) ?_
               with_reducible refine (paroleref04_Check.calls kj56 a1_0 (l0.length : Int) a2_1 a1_2 _ _ l1_3 t324 _ ?side1 ?side2 A94.out).mono ?_
               (case side1 => repeat (first | exact (Kd.C_below HR1_3.out HB.out) | (with_reducible refine Kd.C_alloc ?_ _) | (with_reducible refine Kd.C_drewN ?_ _) | (with_reducible refine Kd.C_drew ?_)))
               (case side2 => exact HC1_3.out)
               rintro e w100 ⟨rfl, hb⟩
               refine ⟨_, rfl, ?_⟩
               have n0_ := Aside0.mk (Kd.R_below (by (with_reducible repeat (first | apply Kd.R_alloc | apply Kd.R_drewN | apply Kd.R_drew)); exact HO_316000.out) hb)
               have n1_ := Aside0.mk (Kd.R_below (by (with_reducible repeat (first | apply Kd.R_alloc | apply Kd.R_drewN | apply Kd.R_drew)); exact HO_317000.out) hb)
               have n2_ := Aside0.mk (blk_below (g := gb303) (o := .cells #[.int .u64 a1_0, .slice A1_1 l1_1.length c1_1, .int .u64 a1_2, .slice A1_3 l1_3.length c1_3] 57 (0, 0)) (by (with_reducible repeat (first | refine blk_drewN ?_ _ | refine blk_drew ?_ | refine blk_alloc ?_ _)); exact BK303.out) hb)
               have n3_ := Aside0.mk (blk_below (g := gb304) (o := .cells #[.int .i64 a2_0, .int .i64 a2_1, .int .i64 a2_2] 58 (0, 0)) (by (with_reducible repeat (first | refine blk_drewN ?_ _ | refine blk_drew ?_ | refine blk_alloc ?_ _)); exact BK304.out) hb)
               have n4_ := Aside0.mk (blk_below (g := gb315) (o := .cells #[.slice Ao26 t307.length co26, .int .i64 t310] 46 (0, 0)) (by (with_reducible repeat (first | refine blk_drewN ?_ _ | refine blk_drew ?_ | refine blk_alloc ?_ _)); exact BK315.out) hb)
               have n5_ := Aside0.mk (blk_below (g := gb316) (o := .cells #[.slice Ao31 t311.length co31, .int .i64 t314] 46 (0, 0)) (by (with_reducible repeat (first | refine blk_drewN ?_ _ | refine blk_drew ?_ | refine blk_alloc ?_ _)); exact BK316.out) hb)
               have n6_ := Aside0.mk (blk_below (g := gb319) (o := .cells #[.int .u64 (rd l0 a2_1), .slice Ao26 t307.length co26] 50 (0, 0)) (by (with_reducible repeat (first | refine blk_drewN ?_ _ | refine blk_drew ?_ | refine blk_alloc ?_ _)); exact BK319.out) hb)
               have n7_ := Aside0.mk (below_step (by repeat (first | (with_reducible first | exact HB.out | apply below_alloc | apply pw_below_drewN | apply below_drew1 | refine below_set ?_ GE303.out | refine below_set ?_ GE304.out | refine below_set ?_ GE315.out | refine below_set ?_ GE316.out | refine below_set ?_ GE319.out) | exact HB.out)) hb)
               clear HO_316000
               clear HO_317000
               clear BK303
               clear BK304
               clear BK315
               clear BK316
               clear BK319
               clear HB
               have HO_316000 := n0_
               have HO_317000 := n1_
               have BK303 := n2_
               have BK304 := n3_
               have BK315 := n4_
               have BK316 := n5_
               have BK319 := n6_
               have HB := n7_
               clear n0_ n1_ n2_ n3_ n4_ n5_ n6_ n7_
               (try clear hb)
               (try clear hb2)
               (try clear hk)
               (try clear hi)
               refine hK.out _ _ ⟨(blk_cell BK319.out 0).trans rfl, (blk_cell BK319.out 1).trans rfl, (blk_cell BK303.out 0).trans rfl, (blk_cell BK303.out 1).trans rfl, (blk_cell BK303.out 2).trans rfl, (blk_cell BK303.out 3).trans rfl⟩ (fun hHeld => ?_)
               clear hK K
               refine norm_ (a' := ?_) ?_ ?_
               rotate_left
               ·
                show Act.put _ (some 116) _ = _
                simp only [Act.put, setIfInBounds_toArray, set_cons_zero, set_cons_succ, i64_w, i32_w]
                rfl
               refine pure_ (i := 28) (N := some 117) (v := ?_) (a' := ?_) (bl_14 30 536870911) rfl rfl (any_of HT_.out (by kernel_rfl)) (fun _ _ _ h => h) (Or.inl ⟨by rfl, ?_⟩) ?_ ?_; rotate_left; (· intro w'; go_simp; with_reducible rfl); rotate_left; (· simp only [Act.put, setIfInBounds_toArray, set_cons_zero, set_cons_succ, i64_w, i32_w]; rfl)
               refine pure_ (i := 29) (N := some 118) (v := ?_) (a' := ?_) (bl_14 30 1073741823) rfl rfl (any_of HT_.out (by kernel_rfl)) (fun _ _ _ h => h) (Or.inl ⟨by rfl, ?_⟩) ?_ ?_; rotate_left; (· intro w'; go_simp; with_reducible rfl); rotate_left; (· simp only [Act.put, setIfInBounds_toArray, set_cons_zero, set_cons_succ, i64_w, i32_w]; rfl)
               refine done_ (done_of HT_.out (by kernel_rfl)) ?_
               try go_wp2
               go_meet
               case rel => exact ⟨_, ((t323 != t324)), (by first | rfl | (simp; done) | (simp [*]; done)), H', ⟨by have := HJ5.out; have := HJ19.out; have := HJ56.out; first | omega | exact Nat.le_refl _⟩, ⟨by (with_reducible repeat (first | apply Kd.R_alloc | apply Kd.R_drewN | apply Kd.R_drew)); exact HO_316000.out⟩, ⟨by (with_reducible repeat (first | apply Kd.R_alloc | apply Kd.R_drewN | apply Kd.R_drew)); exact Kd.R_mono HO_317000.out (fun _ hk => by first | exact ⟨hk, hk⟩ | exact hk | exact ⟨hk.2, hk.1⟩ | simp_all)⟩, ⟨by (with_reducible repeat (first | apply Kd.R_alloc | apply Kd.R_drewN | apply Kd.R_drew)); exact HO_316000.out⟩, ⟨by (with_reducible repeat (first | refine blk_drewN ?_ _ | refine blk_drew ?_ | refine blk_alloc ?_ _)); exact BK303.out⟩, ⟨by (with_reducible repeat (first | refine blk_drewN ?_ _ | refine blk_drew ?_ | refine blk_alloc ?_ _)); exact BK304.out⟩, ⟨by (with_reducible repeat (first | refine blk_drewN ?_ _ | refine blk_drew ?_ | refine blk_alloc ?_ _)); exact BK315.out⟩, ⟨by (with_reducible repeat (first | refine blk_drewN ?_ _ | refine blk_drew ?_ | refine blk_alloc ?_ _)); exact BK316.out⟩, ⟨by (with_reducible repeat (first | refine blk_drewN ?_ _ | refine blk_drew ?_ | refine blk_alloc ?_ _)); exact BK319.out⟩, ⟨by repeat (first | (with_reducible first | exact HB.out | apply below_alloc | apply pw_below_drewN | apply below_drew1 | refine below_set ?_ GE303.out | refine below_set ?_ GE304.out | refine below_set ?_ GE315.out | refine below_set ?_ GE316.out | refine below_set ?_ GE319.out) | exact HB.out)⟩⟩
              ·
               rw [if_neg c92] at H
               have c92b0 : (t321 == t322) = false := beq_eq_false_iff_ne.mpr c92
               have c92b1 : (t321 != t322) = true := bne_iff_ne.mpr c92
               (first | rw [c92b0] | (simp only [i64_w, i32_w]; rw [c92b0]) | skip)
               have H' := Aside0.mk H
               clear H
               try go_wp2
               have n0_ : Aside0 (Kd.R (Kd.int .u64) 22 ((w87.setCell ⟨gb319, 0, none⟩ (.int .u64 (rd l0 a2_1))).setCell ⟨gb319, 1, none⟩ (.slice Ao26 t307.length co26)) w.heap.size (fun k_ => some k_ ≠ (.slice Ao31 t311.length co31 : Value).ownBlock) (.slice Ao26 t307.length co26) t307) := ⟨by (with_reducible repeat (first | apply Kd.R_alloc | apply Kd.R_drewN | apply Kd.R_drew)); exact Kd.R_mono (Kd.R_far (p := ⟨gb319, 1, none⟩) (Kd.R_far (p := ⟨gb319, 0, none⟩) (Kd.R_types HO_316000.out BK319.out (by decide)) (fun _ hk => by first | exact hk.2 | exact hk | exact ⟨hk.2, hk.1⟩ | simp_all) (.int .u64 (rd l0 a2_1))) (fun _ hk => by first | exact hk.2 | exact hk | exact ⟨hk.2, hk.1⟩ | simp_all) (.slice Ao26 t307.length co26)) (fun _ hk => by first | exact hk.1 | exact hk | exact ⟨hk.2, hk.1⟩ | simp_all)⟩
               have n1_ : Aside0 (Kd.R (Kd.int .u64) 22 ((w87.setCell ⟨gb319, 0, none⟩ (.int .u64 (rd l0 a2_1))).setCell ⟨gb319, 1, none⟩ (.slice Ao26 t307.length co26)) w.heap.size (fun k_ => some k_ ≠ (.slice Ao26 t307.length co26 : Value).ownBlock) (.slice Ao31 t311.length co31) t311) := ⟨by (with_reducible repeat (first | apply Kd.R_alloc | apply Kd.R_drewN | apply Kd.R_drew)); exact Kd.R_mono (Kd.R_far (p := ⟨gb319, 1, none⟩) (Kd.R_far (p := ⟨gb319, 0, none⟩) (Kd.R_types HO_317000.out BK319.out (by decide)) (fun _ hk => by first | exact hk.2 | exact hk | exact ⟨hk.2, hk.1⟩ | simp_all) (.int .u64 (rd l0 a2_1))) (fun _ hk => by first | exact hk.2 | exact hk | exact ⟨hk.2, hk.1⟩ | simp_all) (.slice Ao26 t307.length co26)) (fun _ hk => by first | exact hk.1 | exact hk | exact ⟨hk.2, hk.1⟩ | simp_all)⟩
               have n2_ : Aside0 (((w87.setCell ⟨gb319, 0, none⟩ (.int .u64 (rd l0 a2_1))).setCell ⟨gb319, 1, none⟩ (.slice Ao26 t307.length co26)).heap[gb303]? = some (.cells #[.int .u64 a1_0, .slice A1_1 l1_1.length c1_1, .int .u64 a1_2, .slice A1_3 l1_3.length c1_3] 57 (0, 0))) := ⟨by (with_reducible repeat (first | refine blk_drewN ?_ _ | refine blk_drew ?_ | refine blk_alloc ?_ _)); refine blk_far ?_ NB303_319.out _; (with_reducible repeat (first | refine blk_drewN ?_ _ | refine blk_drew ?_ | refine blk_alloc ?_ _)); refine blk_far ?_ NB303_319.out _; (with_reducible repeat (first | refine blk_drewN ?_ _ | refine blk_drew ?_ | refine blk_alloc ?_ _)); exact BK303.out⟩
               have n3_ : Aside0 (((w87.setCell ⟨gb319, 0, none⟩ (.int .u64 (rd l0 a2_1))).setCell ⟨gb319, 1, none⟩ (.slice Ao26 t307.length co26)).heap[gb304]? = some (.cells #[.int .i64 a2_0, .int .i64 a2_1, .int .i64 a2_2] 58 (0, 0))) := ⟨by (with_reducible repeat (first | refine blk_drewN ?_ _ | refine blk_drew ?_ | refine blk_alloc ?_ _)); refine blk_far ?_ NB304_319.out _; (with_reducible repeat (first | refine blk_drewN ?_ _ | refine blk_drew ?_ | refine blk_alloc ?_ _)); refine blk_far ?_ NB304_319.out _; (with_reducible repeat (first | refine blk_drewN ?_ _ | refine blk_drew ?_ | refine blk_alloc ?_ _)); exact BK304.out⟩
               have n4_ : Aside0 (((w87.setCell ⟨gb319, 0, none⟩ (.int .u64 (rd l0 a2_1))).setCell ⟨gb319, 1, none⟩ (.slice Ao26 t307.length co26)).heap[gb315]? = some (.cells #[.slice Ao26 t307.length co26, .int .i64 t310] 46 (0, 0))) := ⟨by (with_reducible repeat (first | refine blk_drewN ?_ _ | refine blk_drew ?_ | refine blk_alloc ?_ _)); refine blk_far ?_ NB315_319.out _; (with_reducible repeat (first | refine blk_drewN ?_ _ | refine blk_drew ?_ | refine blk_alloc ?_ _)); refine blk_far ?_ NB315_319.out _; (with_reducible repeat (first | refine blk_drewN ?_ _ | refine blk_drew ?_ | refine blk_alloc ?_ _)); exact BK315.out⟩
               have n5_ : Aside0 (((w87.setCell ⟨gb319, 0, none⟩ (.int .u64 (rd l0 a2_1))).setCell ⟨gb319, 1, none⟩ (.slice Ao26 t307.length co26)).heap[gb316]? = some (.cells #[.slice Ao31 t311.length co31, .int .i64 t314] 46 (0, 0))) := ⟨by (with_reducible repeat (first | refine blk_drewN ?_ _ | refine blk_drew ?_ | refine blk_alloc ?_ _)); refine blk_far ?_ NB316_319.out _; (with_reducible repeat (first | refine blk_drewN ?_ _ | refine blk_drew ?_ | refine blk_alloc ?_ _)); refine blk_far ?_ NB316_319.out _; (with_reducible repeat (first | refine blk_drewN ?_ _ | refine blk_drew ?_ | refine blk_alloc ?_ _)); exact BK316.out⟩
               have n6_ : Aside0 (((w87.setCell ⟨gb319, 0, none⟩ (.int .u64 (rd l0 a2_1))).setCell ⟨gb319, 1, none⟩ (.slice Ao26 t307.length co26)).heap[gb319]? = some (.cells #[.int .u64 (rd l0 a2_1), .slice Ao26 t307.length co26] 50 (0, 0))) := ⟨by (with_reducible repeat (first | refine blk_drewN ?_ _ | refine blk_drew ?_ | refine blk_alloc ?_ _)); refine blk_put (cs := #[.int .u64 (rd l0 a2_1), .slice A1_1 l1_1.length c1_1]) ?_ 1 _ rfl; (with_reducible repeat (first | refine blk_drewN ?_ _ | refine blk_drew ?_ | refine blk_alloc ?_ _)); refine blk_put (cs := #[.int .u64 a1_0, .slice A1_1 l1_1.length c1_1]) ?_ 0 _ rfl; (with_reducible repeat (first | refine blk_drewN ?_ _ | refine blk_drew ?_ | refine blk_alloc ?_ _)); exact BK319.out⟩
               have n7_ : Aside0 (Below w.heap.size w ((w87.setCell ⟨gb319, 0, none⟩ (.int .u64 (rd l0 a2_1))).setCell ⟨gb319, 1, none⟩ (.slice Ao26 t307.length co26))) := ⟨by repeat (first | (with_reducible first | exact HB.out | apply below_alloc | apply pw_below_drewN | apply below_drew1 | refine below_set ?_ GE303.out | refine below_set ?_ GE304.out | refine below_set ?_ GE315.out | refine below_set ?_ GE316.out | refine below_set ?_ GE319.out) | exact HB.out)⟩
               (try clear HO_316000)
               (try clear HO_317000)
               (try clear BK303)
               (try clear BK304)
               (try clear BK315)
               (try clear BK316)
               (try clear BK319)
               (try clear HB)
               generalize ((w87.setCell ⟨gb319, 0, none⟩ (.int .u64 (rd l0 a2_1))).setCell ⟨gb319, 1, none⟩ (.slice Ao26 t307.length co26)) = w101 at n0_ n1_ n2_ n3_ n4_ n5_ n6_ n7_ ⊢
               have HO_316000 := n0_
               have HO_317000 := n1_
               have BK303 := n2_
               have BK304 := n3_
               have BK315 := n4_
               have BK316 := n5_
               have BK319 := n6_
               have HB := n7_
               clear n0_ n1_ n2_ n3_ n4_ n5_ n6_ n7_
               have n0_ := Aside0.mk (Kd.R_drew HO_316000.out)
               have n1_ := Aside0.mk (Kd.R_drew HO_317000.out)
               have n2_ := Aside0.mk (blk_drew BK303.out)
               have n3_ := Aside0.mk (blk_drew BK304.out)
               have n4_ := Aside0.mk (blk_drew BK315.out)
               have n5_ := Aside0.mk (blk_drew BK316.out)
               have n6_ := Aside0.mk (blk_drew BK319.out)
               have n7_ := Aside0.mk (below_drew1 HB.out)
               clear HO_316000
               clear HO_317000
               clear BK303
               clear BK304
               clear BK315
               clear BK316
               clear BK319
               clear HB
               have HO_316000 := n0_
               have HO_317000 := n1_
               have BK303 := n2_
               have BK304 := n3_
               have BK315 := n4_
               have BK316 := n5_
               have BK319 := n6_
               have HB := n7_
               clear n0_ n1_ n2_ n3_ n4_ n5_ n6_ n7_
               refine start_ (n := 30) (S := fun w' => w'.cell? ⟨gb319, 0, none⟩ = some (.int .u64 (rd l0 a2_1)) ∧ w'.cell? ⟨gb319, 1, none⟩ = some (.slice Ao26 t307.length co26)) (ds := []) #[false, false, false, false, false, false, false, false, false, false, false, false, false, false, false, false, false, false, false, false, false, false, false, false, false, false, false, false, false, false] (by kernel_rfl) rfl rfl ⟨(blk_cell BK319.out 0).trans rfl, (blk_cell BK319.out 1).trans rfl⟩ (fun hHeld => ?_); refine with_tabW parolelaw04_MerkleMatchesReference.tab15 parolelaw04_MerkleMatchesReference.bits15 (fun HT_ HW_ => ?_)
               generalize w101.drew = w102 at HO_316000 HO_317000 BK303 BK304 BK315 BK316 BK319 HB hHeld ⊢
               refine pure_ (i := 0) (N := some 89) (v := ?_) (a' := ?_) (bl_14 30 1) rfl rfl (any_of HT_.out (by kernel_rfl)) (fun _ _ _ h => h) (Or.inl ⟨by rfl, ?_⟩) ?_ ?_; rotate_left; (· intro w'; go_simp; with_reducible rfl); rotate_left; (· simp only [Act.put, setIfInBounds_toArray, set_cons_zero, set_cons_succ, i64_w, i32_w]; rfl)
               refine pure_ (i := 1) (N := some 90) (v := ?_) (a' := ?_) (bl_14 30 3) rfl rfl (any_of HT_.out (by kernel_rfl)) (fun _ _ _ h => h) (Or.inl ⟨by rfl, ?_⟩) ?_ ?_; rotate_left; (· intro w'; go_simp; with_reducible rfl); rotate_left; (· simp only [Act.put, setIfInBounds_toArray, set_cons_zero, set_cons_succ, i64_w, i32_w]; rfl)
               refine pure_ (i := 2) (N := some 91) (v := ?_) (a' := ?_) (bl_14 30 7) rfl rfl (any_of HT_.out (by kernel_rfl)) (fun _ _ _ h => h) (Or.inl ⟨by rfl, ?_⟩) ?_ ?_; rotate_left; (· intro w'; go_simp; with_reducible rfl); rotate_left; (· simp only [Act.put, setIfInBounds_toArray, set_cons_zero, set_cons_succ, i64_w, i32_w]; rfl)
               refine pure_ (i := 5) (N := some 94) (v := ?_) (a' := ?_) (bl_14 30 39) rfl rfl (any_of HT_.out (by kernel_rfl)) (fun _ _ _ h => h) (Or.inl ⟨by rfl, ?_⟩) ?_ ?_; rotate_left; (· intro w'; go_simp; with_reducible rfl); rotate_left; (· simp only [Act.put, setIfInBounds_toArray, set_cons_zero, set_cons_succ, i64_w, i32_w]; rfl)
               refine pure_ (i := 6) (N := some 95) (v := ?_) (a' := ?_) (bl_14 30 103) rfl rfl (any_of HT_.out (by kernel_rfl)) (fun _ _ _ h => h) (Or.inl ⟨by rfl, ?_⟩) ?_ ?_; rotate_left; (· intro w'; go_simp; with_reducible rfl); rotate_left; (· simp only [Act.put, setIfInBounds_toArray, set_cons_zero, set_cons_succ, i64_w, i32_w]; rfl)
               refine pure_ (i := 7) (N := some 96) (v := ?_) (a' := ?_) (bl_14 30 231) rfl rfl (any_of HT_.out (by kernel_rfl)) (fun _ _ _ h => h) (Or.inl ⟨by rfl, ?_⟩) ?_ ?_; rotate_left; (· intro w'; go_simp; with_reducible rfl); rotate_left; (· simp only [Act.put, setIfInBounds_toArray, set_cons_zero, set_cons_succ, i64_w, i32_w]; rfl)
               refine take_ (i := 3) (N := some 92) (v := ?_) (a' := ?_) (bl_14 30 239) rfl rfl (take_ofW HT_.out HW_.out (by kernel_rfl)) (fun _ _ _ h => h) (Or.inl ⟨by rfl, ?_⟩) hHeld ?_ ?_; rotate_left; (· rintro w' ⟨s0, s1⟩; go_simp; with_reducible rfl); rotate_left; (· simp only [Act.put, setIfInBounds_toArray, set_cons_zero, set_cons_succ, i64_w, i32_w]; rfl)
               refine take_ (i := 8) (N := some 97) (v := ?_) (a' := ?_) (bl_14 30 495) rfl rfl (take_ofW HT_.out HW_.out (by kernel_rfl)) (fun _ _ _ h => h) (Or.inl ⟨by rfl, ?_⟩) hHeld ?_ ?_; rotate_left; (· rintro w' ⟨s0, s1⟩; go_simp; with_reducible rfl); rotate_left; (· simp only [Act.put, setIfInBounds_toArray, set_cons_zero, set_cons_succ, i64_w, i32_w]; rfl)
               refine one_ (i := 4) (N := some 93) (bl_14 30 511) rfl rfl (one_of HT_.out (by kernel_rfl)) (by decide) (fun K hK => ?_)
               refine goes_ Try.func35 (by kernel_rfl) rfl #[.int .u64 t306, .int .i64 (l0.length : Int), .int .i64 a2_1, .agg #[.int .u64 (rd l0 a2_1), .slice Ao26 t307.length co26]] (by rfl) rfl rfl (by (try simp only [map_toArray, map_cons, map_nil]); first | done | rfl) ?_
               with_reducible refine (parolelaw04_check.calls t306 (l0.length : Int) a2_1 (rd l0 a2_1) _ _ t307 t321 _ ?side1 ?side2 A90.out).mono ?_
               (case side1 => repeat (first | exact (Kd.R_reads' HO_316000.out).2.2 | (with_reducible refine Kd.C_alloc ?_ _) | (with_reducible refine Kd.C_drewN ?_ _) | (with_reducible refine Kd.C_drew ?_)))
               (case side2 => exact (Kd.R_reads' HO_316000.out).2.1)
               rintro e w103 ⟨rfl, hb⟩
               refine ⟨_, rfl, ?_⟩
               have n0_ := Aside0.mk (Kd.R_below (by (with_reducible repeat (first | apply Kd.R_alloc | apply Kd.R_drewN | apply Kd.R_drew)); exact HO_316000.out) hb)
               have n1_ := Aside0.mk (Kd.R_below (by (with_reducible repeat (first | apply Kd.R_alloc | apply Kd.R_drewN | apply Kd.R_drew)); exact HO_317000.out) hb)
               have n2_ := Aside0.mk (blk_below (g := gb303) (o := .cells #[.int .u64 a1_0, .slice A1_1 l1_1.length c1_1, .int .u64 a1_2, .slice A1_3 l1_3.length c1_3] 57 (0, 0)) (by (with_reducible repeat (first | refine blk_drewN ?_ _ | refine blk_drew ?_ | refine blk_alloc ?_ _)); exact BK303.out) hb)
               have n3_ := Aside0.mk (blk_below (g := gb304) (o := .cells #[.int .i64 a2_0, .int .i64 a2_1, .int .i64 a2_2] 58 (0, 0)) (by (with_reducible repeat (first | refine blk_drewN ?_ _ | refine blk_drew ?_ | refine blk_alloc ?_ _)); exact BK304.out) hb)
               have n4_ := Aside0.mk (blk_below (g := gb315) (o := .cells #[.slice Ao26 t307.length co26, .int .i64 t310] 46 (0, 0)) (by (with_reducible repeat (first | refine blk_drewN ?_ _ | refine blk_drew ?_ | refine blk_alloc ?_ _)); exact BK315.out) hb)
               have n5_ := Aside0.mk (blk_below (g := gb316) (o := .cells #[.slice Ao31 t311.length co31, .int .i64 t314] 46 (0, 0)) (by (with_reducible repeat (first | refine blk_drewN ?_ _ | refine blk_drew ?_ | refine blk_alloc ?_ _)); exact BK316.out) hb)
               have n6_ := Aside0.mk (blk_below (g := gb319) (o := .cells #[.int .u64 (rd l0 a2_1), .slice Ao26 t307.length co26] 50 (0, 0)) (by (with_reducible repeat (first | refine blk_drewN ?_ _ | refine blk_drew ?_ | refine blk_alloc ?_ _)); exact BK319.out) hb)
               have n7_ := Aside0.mk (below_step (by repeat (first | (with_reducible first | exact HB.out | apply below_alloc | apply pw_below_drewN | apply below_drew1 | refine below_set ?_ GE303.out | refine below_set ?_ GE304.out | refine below_set ?_ GE315.out | refine below_set ?_ GE316.out | refine below_set ?_ GE319.out) | exact HB.out)) hb)
               clear HO_316000
               clear HO_317000
               clear BK303
               clear BK304
               clear BK315
               clear BK316
               clear BK319
               clear HB
               have HO_316000 := n0_
               have HO_317000 := n1_
               have BK303 := n2_
               have BK304 := n3_
               have BK315 := n4_
               have BK316 := n5_
               have BK319 := n6_
               have HB := n7_
               clear n0_ n1_ n2_ n3_ n4_ n5_ n6_ n7_
               (try clear hb)
               (try clear hb2)
               (try clear hk)
               (try clear hi)
               refine hK.out _ _ ⟨(blk_cell BK319.out 0).trans rfl, (blk_cell BK319.out 1).trans rfl⟩ (fun hHeld => ?_)
               clear hK K
               refine norm_ (a' := ?_) ?_ ?_
               rotate_left
               ·
                show Act.put _ (some 93) _ = _
                simp only [Act.put, setIfInBounds_toArray, set_cons_zero, set_cons_succ, i64_w, i32_w]
                rfl
               refine one_ (i := 9) (N := some 98) (bl_14 30 1023) rfl rfl (one_of HT_.out (by kernel_rfl)) (by decide) (fun K hK => ?_)
               refine goes_ Try.func39 (by kernel_rfl) rfl #[.int .u64 t306, .int .i64 (l0.length : Int), .int .i64 a2_1, .agg #[.int .u64 (rd l0 a2_1), .slice Ao26 t307.length co26]] (by rfl) rfl rfl (by (try simp only [map_toArray, map_cons, map_nil]); first | done | rfl) ?_
               with_reducible refine (paroleref04_Check.calls kj56 t306 (l0.length : Int) a2_1 (rd l0 a2_1) _ _ t307 t322 _ ?side1 ?side2 A91.out).mono ?_
               (case side1 => repeat (first | exact (Kd.R_reads' HO_316000.out).2.2 | (with_reducible refine Kd.C_alloc ?_ _) | (with_reducible refine Kd.C_drewN ?_ _) | (with_reducible refine Kd.C_drew ?_)))
               (case side2 => exact (Kd.R_reads' HO_316000.out).2.1)
               rintro e w104 ⟨rfl, hb⟩
               refine ⟨_, rfl, ?_⟩
               have n0_ := Aside0.mk (Kd.R_below (by (with_reducible repeat (first | apply Kd.R_alloc | apply Kd.R_drewN | apply Kd.R_drew)); exact HO_316000.out) hb)
               have n1_ := Aside0.mk (Kd.R_below (by (with_reducible repeat (first | apply Kd.R_alloc | apply Kd.R_drewN | apply Kd.R_drew)); exact HO_317000.out) hb)
               have n2_ := Aside0.mk (blk_below (g := gb303) (o := .cells #[.int .u64 a1_0, .slice A1_1 l1_1.length c1_1, .int .u64 a1_2, .slice A1_3 l1_3.length c1_3] 57 (0, 0)) (by (with_reducible repeat (first | refine blk_drewN ?_ _ | refine blk_drew ?_ | refine blk_alloc ?_ _)); exact BK303.out) hb)
               have n3_ := Aside0.mk (blk_below (g := gb304) (o := .cells #[.int .i64 a2_0, .int .i64 a2_1, .int .i64 a2_2] 58 (0, 0)) (by (with_reducible repeat (first | refine blk_drewN ?_ _ | refine blk_drew ?_ | refine blk_alloc ?_ _)); exact BK304.out) hb)
               have n4_ := Aside0.mk (blk_below (g := gb315) (o := .cells #[.slice Ao26 t307.length co26, .int .i64 t310] 46 (0, 0)) (by (with_reducible repeat (first | refine blk_drewN ?_ _ | refine blk_drew ?_ | refine blk_alloc ?_ _)); exact BK315.out) hb)
               have n5_ := Aside0.mk (blk_below (g := gb316) (o := .cells #[.slice Ao31 t311.length co31, .int .i64 t314] 46 (0, 0)) (by (with_reducible repeat (first | refine blk_drewN ?_ _ | refine blk_drew ?_ | refine blk_alloc ?_ _)); exact BK316.out) hb)
               have n6_ := Aside0.mk (blk_below (g := gb319) (o := .cells #[.int .u64 (rd l0 a2_1), .slice Ao26 t307.length co26] 50 (0, 0)) (by (with_reducible repeat (first | refine blk_drewN ?_ _ | refine blk_drew ?_ | refine blk_alloc ?_ _)); exact BK319.out) hb)
               have n7_ := Aside0.mk (below_step (by repeat (first | (with_reducible first | exact HB.out | apply below_alloc | apply pw_below_drewN | apply below_drew1 | refine below_set ?_ GE303.out | refine below_set ?_ GE304.out | refine below_set ?_ GE315.out | refine below_set ?_ GE316.out | refine below_set ?_ GE319.out) | exact HB.out)) hb)
               clear HO_316000
               clear HO_317000
               clear BK303
               clear BK304
               clear BK315
               clear BK316
               clear BK319
               clear HB
               have HO_316000 := n0_
               have HO_317000 := n1_
               have BK303 := n2_
               have BK304 := n3_
               have BK315 := n4_
               have BK316 := n5_
               have BK319 := n6_
               have HB := n7_
               clear n0_ n1_ n2_ n3_ n4_ n5_ n6_ n7_
               (try clear hb)
               (try clear hb2)
               (try clear hk)
               (try clear hi)
               refine hK.out _ _ ⟨(blk_cell BK319.out 0).trans rfl, (blk_cell BK319.out 1).trans rfl⟩ (fun hHeld => ?_)
               clear hK K
               refine norm_ (a' := ?_) ?_ ?_
               rotate_left
               ·
                show Act.put _ (some 98) _ = _
                simp only [Act.put, setIfInBounds_toArray, set_cons_zero, set_cons_succ, i64_w, i32_w]
                rfl
               refine pure_ (i := 10) (N := some 99) (v := ?_) (a' := ?_) (bl_14 30 2047) rfl rfl (any_of HT_.out (by kernel_rfl)) (fun _ _ _ h => h) (Or.inl ⟨by rfl, ?_⟩) ?_ ?_; rotate_left; (· intro w'; go_simp; with_reducible rfl); rotate_left; (· simp only [Act.put, setIfInBounds_toArray, set_cons_zero, set_cons_succ, i64_w, i32_w]; rfl)
               refine pure_ (i := 11) (N := some 100) (v := ?_) (a' := ?_) (bl_14 30 4095) rfl rfl (any_of HT_.out (by kernel_rfl)) (fun _ _ _ h => h) (Or.inl ⟨by rfl, ?_⟩) ?_ ?_; rotate_left; (· intro w'; go_simp; with_reducible rfl); rotate_left; (· simp only [Act.put, setIfInBounds_toArray, set_cons_zero, set_cons_succ, i64_w, i32_w]; rfl)
               refine pure_ (i := 12) (N := some 101) (v := undef) (a' := ?_) (bl_14 30 8191) rfl rfl (any_of HT_.out (by kernel_rfl)) (fun _ _ _ h => h) (Or.inr ⟨by rfl, rfl⟩) ?_ ?_; rotate_left; (· simp only [Act.put, setIfInBounds_toArray, set_cons_zero, set_cons_succ, i64_w, i32_w]; rfl)
               refine pure_ (i := 13) (N := some 102) (v := undef) (a' := ?_) (bl_14 30 16383) rfl rfl (any_of HT_.out (by kernel_rfl)) (fun _ _ _ h => h) (Or.inr ⟨by rfl, rfl⟩) ?_ ?_; rotate_left; (· simp only [Act.put, setIfInBounds_toArray, set_cons_zero, set_cons_succ, i64_w, i32_w]; rfl)
               refine pure_ (i := 14) (N := some 103) (v := undef) (a' := ?_) (bl_14 30 32767) rfl rfl (any_of HT_.out (by kernel_rfl)) (fun _ _ _ h => h) (Or.inr ⟨by rfl, rfl⟩) ?_ ?_; rotate_left; (· simp only [Act.put, setIfInBounds_toArray, set_cons_zero, set_cons_succ, i64_w, i32_w]; rfl)
               refine pure_ (i := 15) (N := some 104) (v := undef) (a' := ?_) (bl_14 30 65535) rfl rfl (any_of HT_.out (by kernel_rfl)) (fun _ _ _ h => h) (Or.inr ⟨by rfl, rfl⟩) ?_ ?_; rotate_left; (· simp only [Act.put, setIfInBounds_toArray, set_cons_zero, set_cons_succ, i64_w, i32_w]; rfl)
               refine pure_ (i := 16) (N := some 105) (v := undef) (a' := ?_) (bl_14 30 131071) rfl rfl (any_of HT_.out (by kernel_rfl)) (fun _ _ _ h => h) (Or.inr ⟨by rfl, rfl⟩) ?_ ?_; rotate_left; (· simp only [Act.put, setIfInBounds_toArray, set_cons_zero, set_cons_succ, i64_w, i32_w]; rfl)
               refine pure_ (i := 17) (N := some 106) (v := undef) (a' := ?_) (bl_14 30 262143) rfl rfl (any_of HT_.out (by kernel_rfl)) (fun _ _ _ h => h) (Or.inr ⟨by rfl, rfl⟩) ?_ ?_; rotate_left; (· simp only [Act.put, setIfInBounds_toArray, set_cons_zero, set_cons_succ, i64_w, i32_w]; rfl)
               refine pure_ (i := 18) (N := some 107) (v := undef) (a' := ?_) (bl_14 30 524287) rfl rfl (any_of HT_.out (by kernel_rfl)) (fun _ _ _ h => h) (Or.inr ⟨by rfl, rfl⟩) ?_ ?_; rotate_left; (· simp only [Act.put, setIfInBounds_toArray, set_cons_zero, set_cons_succ, i64_w, i32_w]; rfl)
               refine pure_ (i := 19) (N := some 108) (v := undef) (a' := ?_) (bl_14 30 1048575) rfl rfl (any_of HT_.out (by kernel_rfl)) (fun _ _ _ h => h) (Or.inr ⟨by rfl, rfl⟩) ?_ ?_; rotate_left; (· simp only [Act.put, setIfInBounds_toArray, set_cons_zero, set_cons_succ, i64_w, i32_w]; rfl)
               refine pure_ (i := 20) (N := some 109) (v := undef) (a' := ?_) (bl_14 30 2097151) rfl rfl (any_of HT_.out (by kernel_rfl)) (fun _ _ _ h => h) (Or.inr ⟨by rfl, rfl⟩) ?_ ?_; rotate_left; (· simp only [Act.put, setIfInBounds_toArray, set_cons_zero, set_cons_succ, i64_w, i32_w]; rfl)
               refine pure_ (i := 21) (N := some 110) (v := undef) (a' := ?_) (bl_14 30 4194303) rfl rfl (any_of HT_.out (by kernel_rfl)) (fun _ _ _ h => h) (Or.inr ⟨by rfl, rfl⟩) ?_ ?_; rotate_left; (· simp only [Act.put, setIfInBounds_toArray, set_cons_zero, set_cons_succ, i64_w, i32_w]; rfl)
               refine pure_ (i := 22) (N := some 111) (v := undef) (a' := ?_) (bl_14 30 8388607) rfl rfl (any_of HT_.out (by kernel_rfl)) (fun _ _ _ h => h) (Or.inr ⟨by rfl, rfl⟩) ?_ ?_; rotate_left; (· simp only [Act.put, setIfInBounds_toArray, set_cons_zero, set_cons_succ, i64_w, i32_w]; rfl)
               refine pure_ (i := 23) (N := some 112) (v := undef) (a' := ?_) (bl_14 30 16777215) rfl rfl (any_of HT_.out (by kernel_rfl)) (fun _ _ _ h => h) (Or.inr ⟨by rfl, rfl⟩) ?_ ?_; rotate_left; (· simp only [Act.put, setIfInBounds_toArray, set_cons_zero, set_cons_succ, i64_w, i32_w]; rfl)
               refine pure_ (i := 24) (N := some 113) (v := undef) (a' := ?_) (bl_14 30 33554431) rfl rfl (any_of HT_.out (by kernel_rfl)) (fun _ _ _ h => h) (Or.inr ⟨by rfl, rfl⟩) ?_ ?_; rotate_left; (· simp only [Act.put, setIfInBounds_toArray, set_cons_zero, set_cons_succ, i64_w, i32_w]; rfl)
               refine pure_ (i := 25) (N := some 114) (v := undef) (a' := ?_) (bl_14 30 67108863) rfl rfl (any_of HT_.out (by kernel_rfl)) (fun _ _ _ h => h) (Or.inr ⟨by rfl, rfl⟩) ?_ ?_; rotate_left; (· simp only [Act.put, setIfInBounds_toArray, set_cons_zero, set_cons_succ, i64_w, i32_w]; rfl)
               refine pure_ (i := 26) (N := some 115) (v := undef) (a' := ?_) (bl_14 30 134217727) rfl rfl (any_of HT_.out (by kernel_rfl)) (fun _ _ _ h => h) (Or.inr ⟨by rfl, rfl⟩) ?_ ?_; rotate_left; (· simp only [Act.put, setIfInBounds_toArray, set_cons_zero, set_cons_succ, i64_w, i32_w]; rfl)
               refine pure_ (i := 27) (N := some 116) (v := undef) (a' := ?_) (bl_14 30 268435455) rfl rfl (any_of HT_.out (by kernel_rfl)) (fun _ _ _ h => h) (Or.inr ⟨by rfl, rfl⟩) ?_ ?_; rotate_left; (· simp only [Act.put, setIfInBounds_toArray, set_cons_zero, set_cons_succ, i64_w, i32_w]; rfl)
               refine pure_ (i := 28) (N := some 117) (v := undef) (a' := ?_) (bl_14 30 536870911) rfl rfl (any_of HT_.out (by kernel_rfl)) (fun _ _ _ h => h) (Or.inr ⟨by rfl, rfl⟩) ?_ ?_; rotate_left; (· simp only [Act.put, setIfInBounds_toArray, set_cons_zero, set_cons_succ, i64_w, i32_w]; rfl)
               refine pure_ (i := 29) (N := some 118) (v := ?_) (a' := ?_) (bl_14 30 1073741823) rfl rfl (any_of HT_.out (by kernel_rfl)) (fun _ _ _ h => h) (Or.inl ⟨by rfl, ?_⟩) ?_ ?_; rotate_left; (· intro w'; go_simp; with_reducible rfl); rotate_left; (· simp only [Act.put, setIfInBounds_toArray, set_cons_zero, set_cons_succ, i64_w, i32_w]; rfl)
               refine done_ (done_of HT_.out (by kernel_rfl)) ?_
               try go_wp2
               go_meet
               case rel => exact ⟨_, (true), (by first | rfl | (simp; done) | (simp [*]; done)), H', ⟨by have := HJ5.out; have := HJ19.out; have := HJ56.out; first | omega | exact Nat.le_refl _⟩, ⟨by (with_reducible repeat (first | apply Kd.R_alloc | apply Kd.R_drewN | apply Kd.R_drew)); exact HO_316000.out⟩, ⟨by (with_reducible repeat (first | apply Kd.R_alloc | apply Kd.R_drewN | apply Kd.R_drew)); exact Kd.R_mono HO_317000.out (fun _ hk => by first | exact ⟨hk, hk⟩ | exact hk | exact ⟨hk.2, hk.1⟩ | simp_all)⟩, ⟨by (with_reducible repeat (first | apply Kd.R_alloc | apply Kd.R_drewN | apply Kd.R_drew)); exact HO_316000.out⟩, ⟨by (with_reducible repeat (first | refine blk_drewN ?_ _ | refine blk_drew ?_ | refine blk_alloc ?_ _)); exact BK303.out⟩, ⟨by (with_reducible repeat (first | refine blk_drewN ?_ _ | refine blk_drew ?_ | refine blk_alloc ?_ _)); exact BK304.out⟩, ⟨by (with_reducible repeat (first | refine blk_drewN ?_ _ | refine blk_drew ?_ | refine blk_alloc ?_ _)); exact BK315.out⟩, ⟨by (with_reducible repeat (first | refine blk_drewN ?_ _ | refine blk_drew ?_ | refine blk_alloc ?_ _)); exact BK316.out⟩, ⟨by (with_reducible repeat (first | refine blk_drewN ?_ _ | refine blk_drew ?_ | refine blk_alloc ?_ _)); exact BK319.out⟩, ⟨by repeat (first | (with_reducible first | exact HB.out | apply below_alloc | apply pw_below_drewN | apply below_drew1 | refine below_set ?_ GE303.out | refine below_set ?_ GE304.out | refine below_set ?_ GE315.out | refine below_set ?_ GE316.out | refine below_set ?_ GE319.out) | exact HB.out)⟩⟩
             case rest =>
              clear HC86
              try clear c1
              try clear p2
              try clear c3
              try clear c9
              try clear c35
              try clear c39
              try clear c92
              try clear c92b0
              try clear c92b1
              obtain ⟨kq, x118_85, rfl, HA, HJ85, HO_316000, HO_317000, HO_320001, BK303, BK304, BK315, BK316, BK319, HB⟩ := hcut
              cases kq with
              | zero => exact absurd HA.out (by simp [parolelaw04_MerkleMatchesReference.j3])
              | succ kj85 =>
               have H := HA.out
               clear HA
               simp only [parolelaw04_MerkleMatchesReference.j3] at H
               by_cases c105 : x118_85 = true
               ·
                subst c105
                have H1 : (none) = some r := by rw [if_pos rfl] at H; exact H
                clear H
                have H := H1
                clear H1
                exact absurd H (by simp)
               ·
                replace c105 := Bool.eq_false_iff.mpr c105
                subst c105
                have H1 : ((merkle_Collide.f kj85 (l0.length : Int) a2_1 (rd l0 a2_1) t307 a1_2 l1_3).bind fun bt325 => ((paroleref04_Collide.f kj85 (l0.length : Int) a2_1 (rd l0 a2_1) t307 a1_2 l1_3).bind fun bt331 => (if bt325.1 = bt331.1 then (if bt325.2.1 = bt331.2.1 then (if bt325.2.2.1 = bt331.2.2.1 then (if bt325.2.2.2.1 = bt331.2.2.2.1 then (if (bt325.2.2.2.2 == bt331.2.2.2.2) = true then (some true) else (none)) else (none)) else (none)) else (none)) else (none)))) = some r := by rw [if_neg (show ¬ (false = true) by decide)] at H; exact H
                clear H
                have H := H1
                clear H1
                replace H := Option.bind_eq_some_iff.mp H
                obtain ⟨⟨t325, t326, t327, t328, t329⟩, A1060, H⟩ := H
                replace H : ((paroleref04_Collide.f kj85 (l0.length : Int) a2_1 (rd l0 a2_1) t307 a1_2 l1_3).bind fun bt331 => (if t325 = bt331.1 then (if t326 = bt331.2.1 then (if t327 = bt331.2.2.1 then (if t328 = bt331.2.2.2.1 then (if (t329 == bt331.2.2.2.2) = true then (some true) else (none)) else (none)) else (none)) else (none)) else (none))) = some r := H
                have A106 := Aside0.mk A1060
                clear A1060
                replace H := Option.bind_eq_some_iff.mp H
                obtain ⟨⟨t331, t332, t333, t334, t335⟩, A1070, H⟩ := H
                replace H : (if t325 = t331 then (if t326 = t332 then (if t327 = t333 then (if t328 = t334 then (if (t329 == t335) = true then (some true) else (none)) else (none)) else (none)) else (none)) else (none)) = some r := H
                have A107 := Aside0.mk A1070
                clear A1070
                by_cases c108 : t325 = t331
                ·
                 rw [if_pos c108] at H
                 have c108b0 : (t325 == t331) = true := beq_iff_eq.mpr c108
                 have c108b1 : (t325 != t331) = false := bne_eq_false_iff_eq.mpr c108
                 clear c108
                 by_cases c109 : t326 = t332
                 ·
                  rw [if_pos c109] at H
                  have c109b0 : (t326 == t332) = true := beq_iff_eq.mpr c109
                  have c109b1 : (t326 != t332) = false := bne_eq_false_iff_eq.mpr c109
                  clear c109
                  by_cases c110 : t327 = t333
                  ·
                   rw [if_pos c110] at H
                   have c110b0 : (t327 == t333) = true := beq_iff_eq.mpr c110
                   have c110b1 : (t327 != t333) = false := bne_eq_false_iff_eq.mpr c110
                   clear c110
                   by_cases c111 : t328 = t334
                   ·
                    rw [if_pos c111] at H
                    have c111b0 : (t328 == t334) = true := beq_iff_eq.mpr c111
                    have c111b1 : (t328 != t334) = false := bne_eq_false_iff_eq.mpr c111
                    clear c111
                    by_cases c112 : (t329 == t335) = true
                    ·
                     rw [if_pos c112] at H
                     have c112b0 : (t329 == t335) = true := c112
                     (try (have c112b1 : decide (t329 = t335) = true := by simpa using c112))
                     (try (have c112b2 : (t329 == t335) = true := by simpa using c112))
                     clear c112
                     obtain rfl := Option.some.inj H
                     have hnb113 := NB319_303.out
                     have hnc113 := NB303_319.out
                     have hnb114 := NB319_304.out
                     have hnc114 := NB304_319.out
                     have hnb115 := NB319_315.out
                     have hnc115 := NB315_319.out
                     have hnb116 := NB319_316.out
                     have hnc116 := NB316_319.out
                     have hcz117_0 : wc.cell? ⟨gb319, 0, none⟩ = some (.int .u64 (rd l0 a2_1)) := (blk_cell BK319.out 0).trans rfl
                     have hcz117_1 : wc.cell? ⟨gb319, 1, none⟩ = some (.slice Ao26 t307.length co26) := (blk_cell BK319.out 1).trans rfl
                     have hfz117_0 := blk_frozen BK319.out 0
                     have hfz117_1 := blk_frozen BK319.out 1
                     have hnb118 := NB303_304.out
                     have hnc118 := NB304_303.out
                     have hnb119 := NB303_315.out
                     have hnc119 := NB315_303.out
                     have hnb120 := NB303_316.out
                     have hnc120 := NB316_303.out
                     have hcz121_0 : wc.cell? ⟨gb303, 0, none⟩ = some (.int .u64 a1_0) := (blk_cell BK303.out 0).trans rfl
                     have hcz121_1 : wc.cell? ⟨gb303, 1, none⟩ = some (.slice A1_1 l1_1.length c1_1) := (blk_cell BK303.out 1).trans rfl
                     have hcz121_2 : wc.cell? ⟨gb303, 2, none⟩ = some (.int .u64 a1_2) := (blk_cell BK303.out 2).trans rfl
                     have hcz121_3 : wc.cell? ⟨gb303, 3, none⟩ = some (.slice A1_3 l1_3.length c1_3) := (blk_cell BK303.out 3).trans rfl
                     have hfz121_0 := blk_frozen BK303.out 0
                     have hfz121_1 := blk_frozen BK303.out 1
                     have hfz121_2 := blk_frozen BK303.out 2
                     have hfz121_3 := blk_frozen BK303.out 3
                     go_wp2_with (first | ((with_reducible refine gate_callee (f := 40) rfl ?_); refine goesL_ (some 125) rfl rfl Try.func40 (by kernel_rfl) rfl #[.int .i64 (l0.length : Int), .int .i64 a2_1, .agg #[.int .u64 (rd l0 a2_1), .slice Ao26 t307.length co26], .agg #[.int .u64 a1_2, .slice A1_3 l1_3.length c1_3]] rfl (by (try simp only [map_toArray, map_cons, map_nil]); first | done | rfl) ?_; (with_reducible refine (merkle_Collide.calls kj85 (l0.length : Int) a2_1 (rd l0 a2_1) _ _ t307 a1_2 _ _ l1_3 t325 t326 t327 t328 t329 _ ?side1 ?side2 ?side3 ?side4 A106.out).mono ?_); (case side1 => repeat (first | exact (Kd.R_reads' HO_320001.out).2.2 | (with_reducible refine Kd.C_alloc ?_ _) | (with_reducible refine Kd.C_drewN ?_ _) | (with_reducible refine Kd.C_drew ?_))); (case side2 => exact (Kd.R_reads' HO_320001.out).2.1); (case side3 => repeat (first | exact (Kd.C_below HR1_3.out HB.out) | (with_reducible refine Kd.C_alloc ?_ _) | (with_reducible refine Kd.C_drewN ?_ _) | (with_reducible refine Kd.C_drew ?_))); (case side4 => exact HC1_3.out); rintro e w122 ⟨rfl, hb⟩; refine ⟨_, rfl, ?_⟩; have n0_ := Aside0.mk (Kd.R_below (by (with_reducible repeat (first | apply Kd.R_alloc | apply Kd.R_drewN | apply Kd.R_drew)); exact HO_316000.out) hb); have n1_ := Aside0.mk (Kd.R_below (by (with_reducible repeat (first | apply Kd.R_alloc | apply Kd.R_drewN | apply Kd.R_drew)); exact HO_317000.out) hb); have n2_ := Aside0.mk (Kd.R_below (by (with_reducible repeat (first | apply Kd.R_alloc | apply Kd.R_drewN | apply Kd.R_drew)); exact HO_320001.out) hb); have n3_ := Aside0.mk (blk_below (g := gb303) (o := .cells #[.int .u64 a1_0, .slice A1_1 l1_1.length c1_1, .int .u64 a1_2, .slice A1_3 l1_3.length c1_3] 57 (0, 0)) (by (with_reducible repeat (first | refine blk_drewN ?_ _ | refine blk_drew ?_ | refine blk_alloc ?_ _)); exact BK303.out) hb); have n4_ := Aside0.mk (blk_below (g := gb304) (o := .cells #[.int .i64 a2_0, .int .i64 a2_1, .int .i64 a2_2] 58 (0, 0)) (by (with_reducible repeat (first | refine blk_drewN ?_ _ | refine blk_drew ?_ | refine blk_alloc ?_ _)); exact BK304.out) hb); have n5_ := Aside0.mk (blk_below (g := gb315) (o := .cells #[.slice Ao26 t307.length co26, .int .i64 t310] 46 (0, 0)) (by (with_reducible repeat (first | refine blk_drewN ?_ _ | refine blk_drew ?_ | refine blk_alloc ?_ _)); exact BK315.out) hb); have n6_ := Aside0.mk (blk_below (g := gb316) (o := .cells #[.slice Ao31 t311.length co31, .int .i64 t314] 46 (0, 0)) (by (with_reducible repeat (first | refine blk_drewN ?_ _ | refine blk_drew ?_ | refine blk_alloc ?_ _)); exact BK316.out) hb); have n7_ := Aside0.mk (blk_below (g := gb319) (o := .cells #[.int .u64 (rd l0 a2_1), .slice Ao26 t307.length co26] 50 (0, 0)) (by (with_reducible repeat (first | refine blk_drewN ?_ _ | refine blk_drew ?_ | refine blk_alloc ?_ _)); exact BK319.out) hb); have n8_ := Aside0.mk (below_step (by repeat (first | (with_reducible first | exact HB.out | apply below_alloc | apply pw_below_drewN | apply below_drew1 | refine below_set ?_ GE303.out | refine below_set ?_ GE304.out | refine below_set ?_ GE315.out | refine below_set ?_ GE316.out | refine below_set ?_ GE319.out) | exact HB.out)) hb); clear HO_316000; clear HO_317000; clear HO_320001; clear BK303; clear BK304; clear BK315; clear BK316; clear BK319; clear HB; have HO_316000 := n0_; have HO_317000 := n1_; have HO_320001 := n2_; have BK303 := n3_; have BK304 := n4_; have BK315 := n5_; have BK316 := n6_; have BK319 := n7_; have HB := n8_; clear n0_ n1_ n2_ n3_ n4_ n5_ n6_ n7_ n8_; (try clear hb); (try clear hb2); (try clear hk); (try clear hi)) | ((with_reducible refine gate_dst (N := 14) rfl ?_); (try (refine gate_guard (by rfl) ?_; dsimp only)); refine box_event ?hg (N := 14) ?hd (cs := #[.int .u64 0, .int .u64 0, .int .u64 0, .int .u64 0]) (t := 60) ?hr ?_; (case hd => rfl); (case hg => rfl); (case hr => first | (go_simp; done) | (go_simp; rfl)); intro gb330 hg w123 hbox hb; have n0_ := Aside0.mk (Kd.R_below (by (with_reducible repeat (first | apply Kd.R_alloc | apply Kd.R_drewN | apply Kd.R_drew)); exact HO_316000.out) hb); have n1_ := Aside0.mk (Kd.R_below (by (with_reducible repeat (first | apply Kd.R_alloc | apply Kd.R_drewN | apply Kd.R_drew)); exact HO_317000.out) hb); have n2_ := Aside0.mk (Kd.R_below (by (with_reducible repeat (first | apply Kd.R_alloc | apply Kd.R_drewN | apply Kd.R_drew)); exact HO_320001.out) hb); have n3_ := Aside0.mk (blk_below (g := gb303) (o := .cells #[.int .u64 a1_0, .slice A1_1 l1_1.length c1_1, .int .u64 a1_2, .slice A1_3 l1_3.length c1_3] 57 (0, 0)) (by (with_reducible repeat (first | refine blk_drewN ?_ _ | refine blk_drew ?_ | refine blk_alloc ?_ _)); exact BK303.out) hb); have n4_ := Aside0.mk (blk_below (g := gb304) (o := .cells #[.int .i64 a2_0, .int .i64 a2_1, .int .i64 a2_2] 58 (0, 0)) (by (with_reducible repeat (first | refine blk_drewN ?_ _ | refine blk_drew ?_ | refine blk_alloc ?_ _)); exact BK304.out) hb); have n5_ := Aside0.mk (blk_below (g := gb315) (o := .cells #[.slice Ao26 t307.length co26, .int .i64 t310] 46 (0, 0)) (by (with_reducible repeat (first | refine blk_drewN ?_ _ | refine blk_drew ?_ | refine blk_alloc ?_ _)); exact BK315.out) hb); have n6_ := Aside0.mk (blk_below (g := gb316) (o := .cells #[.slice Ao31 t311.length co31, .int .i64 t314] 46 (0, 0)) (by (with_reducible repeat (first | refine blk_drewN ?_ _ | refine blk_drew ?_ | refine blk_alloc ?_ _)); exact BK316.out) hb); have n7_ := Aside0.mk (blk_below (g := gb319) (o := .cells #[.int .u64 (rd l0 a2_1), .slice Ao26 t307.length co26] 50 (0, 0)) (by (with_reducible repeat (first | refine blk_drewN ?_ _ | refine blk_drew ?_ | refine blk_alloc ?_ _)); exact BK319.out) hb); have n8_ := Aside0.mk (below_step (by repeat (first | (with_reducible first | exact HB.out | apply below_alloc | apply pw_below_drewN | apply below_drew1 | refine below_set ?_ GE303.out | refine below_set ?_ GE304.out | refine below_set ?_ GE315.out | refine below_set ?_ GE316.out | refine below_set ?_ GE319.out) | exact HB.out)) hb); have n9_ := Aside0.mk (hbox); have n10_ := Aside0.mk ((by rw [hg]; exact (below_size (by repeat (first | (with_reducible first | exact HB.out | apply below_alloc | apply pw_below_drewN | apply below_drew1 | refine below_set ?_ GE303.out | refine below_set ?_ GE304.out | refine below_set ?_ GE315.out | refine below_set ?_ GE316.out | refine below_set ?_ GE319.out) | exact HB.out))) : w.heap.size ≤ gb330)); have n11_ := Aside0.mk ((by rw [hg]; exact (below_size (by repeat (first | (with_reducible first | exact HB.out | apply below_alloc | apply pw_below_drewN | apply below_drew1 | refine below_set ?_ GE303.out | refine below_set ?_ GE304.out | refine below_set ?_ GE315.out | refine below_set ?_ GE316.out | refine below_set ?_ GE319.out) | exact HB.out))) : w.heap.size ≤ gb330)); have n12_ := Aside0.mk ((by rw [hg]; exact Nat.ne_of_lt (blk_lt (g := gb303) (o := .cells #[.int .u64 a1_0, .slice A1_1 l1_1.length c1_1, .int .u64 a1_2, .slice A1_3 l1_3.length c1_3] 57 (0, 0)) (by (with_reducible repeat (first | refine blk_drewN ?_ _ | refine blk_drew ?_ | refine blk_alloc ?_ _)); exact BK303.out)) : gb303 ≠ gb330)); have n13_ := Aside0.mk ((by rw [hg]; exact Nat.ne_of_gt (blk_lt (g := gb303) (o := .cells #[.int .u64 a1_0, .slice A1_1 l1_1.length c1_1, .int .u64 a1_2, .slice A1_3 l1_3.length c1_3] 57 (0, 0)) (by (with_reducible repeat (first | refine blk_drewN ?_ _ | refine blk_drew ?_ | refine blk_alloc ?_ _)); exact BK303.out)) : gb330 ≠ gb303)); have n14_ := Aside0.mk ((by rw [hg]; exact Nat.ne_of_lt (blk_lt (g := gb304) (o := .cells #[.int .i64 a2_0, .int .i64 a2_1, .int .i64 a2_2] 58 (0, 0)) (by (with_reducible repeat (first | refine blk_drewN ?_ _ | refine blk_drew ?_ | refine blk_alloc ?_ _)); exact BK304.out)) : gb304 ≠ gb330)); have n15_ := Aside0.mk ((by rw [hg]; exact Nat.ne_of_gt (blk_lt (g := gb304) (o := .cells #[.int .i64 a2_0, .int .i64 a2_1, .int .i64 a2_2] 58 (0, 0)) (by (with_reducible repeat (first | refine blk_drewN ?_ _ | refine blk_drew ?_ | refine blk_alloc ?_ _)); exact BK304.out)) : gb330 ≠ gb304)); have n16_ := Aside0.mk ((by rw [hg]; exact Nat.ne_of_lt (blk_lt (g := gb315) (o := .cells #[.slice Ao26 t307.length co26, .int .i64 t310] 46 (0, 0)) (by (with_reducible repeat (first | refine blk_drewN ?_ _ | refine blk_drew ?_ | refine blk_alloc ?_ _)); exact BK315.out)) : gb315 ≠ gb330)); have n17_ := Aside0.mk ((by rw [hg]; exact Nat.ne_of_gt (blk_lt (g := gb315) (o := .cells #[.slice Ao26 t307.length co26, .int .i64 t310] 46 (0, 0)) (by (with_reducible repeat (first | refine blk_drewN ?_ _ | refine blk_drew ?_ | refine blk_alloc ?_ _)); exact BK315.out)) : gb330 ≠ gb315)); have n18_ := Aside0.mk ((by rw [hg]; exact Nat.ne_of_lt (blk_lt (g := gb316) (o := .cells #[.slice Ao31 t311.length co31, .int .i64 t314] 46 (0, 0)) (by (with_reducible repeat (first | refine blk_drewN ?_ _ | refine blk_drew ?_ | refine blk_alloc ?_ _)); exact BK316.out)) : gb316 ≠ gb330)); have n19_ := Aside0.mk ((by rw [hg]; exact Nat.ne_of_gt (blk_lt (g := gb316) (o := .cells #[.slice Ao31 t311.length co31, .int .i64 t314] 46 (0, 0)) (by (with_reducible repeat (first | refine blk_drewN ?_ _ | refine blk_drew ?_ | refine blk_alloc ?_ _)); exact BK316.out)) : gb330 ≠ gb316)); have n20_ := Aside0.mk ((by rw [hg]; exact Nat.ne_of_lt (blk_lt (g := gb319) (o := .cells #[.int .u64 (rd l0 a2_1), .slice Ao26 t307.length co26] 50 (0, 0)) (by (with_reducible repeat (first | refine blk_drewN ?_ _ | refine blk_drew ?_ | refine blk_alloc ?_ _)); exact BK319.out)) : gb319 ≠ gb330)); have n21_ := Aside0.mk ((by rw [hg]; exact Nat.ne_of_gt (blk_lt (g := gb319) (o := .cells #[.int .u64 (rd l0 a2_1), .slice Ao26 t307.length co26] 50 (0, 0)) (by (with_reducible repeat (first | refine blk_drewN ?_ _ | refine blk_drew ?_ | refine blk_alloc ?_ _)); exact BK319.out)) : gb330 ≠ gb319)); clear HO_316000; clear HO_317000; clear HO_320001; clear BK303; clear BK304; clear BK315; clear BK316; clear BK319; clear HB; have HO_316000 := n0_; have HO_317000 := n1_; have HO_320001 := n2_; have BK303 := n3_; have BK304 := n4_; have BK315 := n5_; have BK316 := n6_; have BK319 := n7_; have HB := n8_; have BK330 := n9_; have GW330 := n10_; have GE330 := n11_; have NB303_330 := n12_; have NB330_303 := n13_; have NB304_330 := n14_; have NB330_304 := n15_; have NB315_330 := n16_; have NB330_315 := n17_; have NB316_330 := n18_; have NB330_316 := n19_; have NB319_330 := n20_; have NB330_319 := n21_; clear n0_ n1_ n2_ n3_ n4_ n5_ n6_ n7_ n8_ n9_ n10_ n11_ n12_ n13_ n14_ n15_ n16_ n17_ n18_ n19_ n20_ n21_; clear hb hbox hg; have hnb124 := NB330_303.out; have hnc124 := NB303_330.out; have hnb125 := NB330_304.out; have hnc125 := NB304_330.out; have hnb126 := NB330_315.out; have hnc126 := NB315_330.out; have hnb127 := NB330_316.out; have hnc127 := NB316_330.out; have hnb128 := NB330_319.out; have hnc128 := NB319_330.out; have hcz129_0 : w123.cell? ⟨gb330, 0, none⟩ = some (.int .u64 0) := (blk_cell BK330.out 0).trans rfl; have hcz129_1 : w123.cell? ⟨gb330, 1, none⟩ = some (.int .u64 0) := (blk_cell BK330.out 1).trans rfl; have hcz129_2 : w123.cell? ⟨gb330, 2, none⟩ = some (.int .u64 0) := (blk_cell BK330.out 2).trans rfl; have hcz129_3 : w123.cell? ⟨gb330, 3, none⟩ = some (.int .u64 0) := (blk_cell BK330.out 3).trans rfl; have hfz129_0 := blk_frozen BK330.out 0; have hfz129_1 := blk_frozen BK330.out 1; have hfz129_2 := blk_frozen BK330.out 2; have hfz129_3 := blk_frozen BK330.out 3; have hcz130_0 : w123.cell? ⟨gb319, 0, none⟩ = some (.int .u64 (rd l0 a2_1)) := (blk_cell BK319.out 0).trans rfl; have hcz130_1 : w123.cell? ⟨gb319, 1, none⟩ = some (.slice Ao26 t307.length co26) := (blk_cell BK319.out 1).trans rfl; have hfz130_0 := blk_frozen BK319.out 0; have hfz130_1 := blk_frozen BK319.out 1; have hcz131_0 : w123.cell? ⟨gb303, 0, none⟩ = some (.int .u64 a1_0) := (blk_cell BK303.out 0).trans rfl; have hcz131_1 : w123.cell? ⟨gb303, 1, none⟩ = some (.slice A1_1 l1_1.length c1_1) := (blk_cell BK303.out 1).trans rfl; have hcz131_2 : w123.cell? ⟨gb303, 2, none⟩ = some (.int .u64 a1_2) := (blk_cell BK303.out 2).trans rfl; have hcz131_3 : w123.cell? ⟨gb303, 3, none⟩ = some (.slice A1_3 l1_3.length c1_3) := (blk_cell BK303.out 3).trans rfl; have hfz131_0 := blk_frozen BK303.out 0; have hfz131_1 := blk_frozen BK303.out 1; have hfz131_2 := blk_frozen BK303.out 2; have hfz131_3 := blk_frozen BK303.out 3) | ((with_reducible refine gate_callee (f := 41) rfl ?_); refine goesL_ (some 133) rfl rfl Try.func41 (by kernel_rfl) rfl #[.int .i64 (l0.length : Int), .int .i64 a2_1, .agg #[.int .u64 (rd l0 a2_1), .slice Ao26 t307.length co26], .agg #[.int .u64 a1_2, .slice A1_3 l1_3.length c1_3]] rfl (by (try simp only [map_toArray, map_cons, map_nil]); first | done | rfl) ?_; (with_reducible refine (paroleref04_Collide.calls kj85 (l0.length : Int) a2_1 (rd l0 a2_1) _ _ t307 a1_2 _ _ l1_3 t331 t332 t333 t334 t335 _ ?side1 ?side2 ?side3 ?side4 A107.out).mono ?_); (case side1 => refine (Kd.R_reads' (e := 22) (base := w.heap.size) (ok := fun k_ => some k_ ≠ (.slice Ao31 t311.length co31 : Value).ownBlock) (n := t307.length) (c := co26) ?_).2.2; exact (by (with_reducible repeat (first | apply Kd.R_alloc | apply Kd.R_drewN | apply Kd.R_drew)); exact (Kd.R_mono (Kd.R_far (p := ⟨gb330, 3, none⟩) (Kd.R_far (p := ⟨gb330, 2, none⟩) (Kd.R_far (p := ⟨gb330, 1, none⟩) (Kd.R_far (p := ⟨gb330, 0, none⟩) (Kd.R_types HO_320001.out BK330.out (by decide)) (fun _ hk => by first | exact hk.2 | exact hk | exact ⟨hk.2, hk.1⟩ | simp_all) (.int .u64 t325)) (fun _ hk => by first | exact hk.2 | exact hk | exact ⟨hk.2, hk.1⟩ | simp_all) (.int .u64 t326)) (fun _ hk => by first | exact hk.2 | exact hk | exact ⟨hk.2, hk.1⟩ | simp_all) (.int .u64 t327)) (fun _ hk => by first | exact hk.2 | exact hk | exact ⟨hk.2, hk.1⟩ | simp_all) (.int .u64 t328)) (fun _ h_ => h_.1)))); (case side2 => exact (Kd.R_reads' HO_320001.out).2.1); (case side3 => exact Kd.C_below HR1_3.out (by repeat (first | (with_reducible first | exact HB.out | apply below_alloc | apply pw_below_drewN | apply below_drew1 | refine below_set ?_ GE303.out | refine below_set ?_ GE304.out | refine below_set ?_ GE315.out | refine below_set ?_ GE316.out | refine below_set ?_ GE319.out | refine below_set ?_ GE330.out) | exact HB.out))); (case side4 => exact HC1_3.out); rintro e w132 ⟨rfl, hb⟩; refine ⟨_, rfl, ?_⟩; have n0_ := Aside0.mk (Kd.R_below (by (with_reducible repeat (first | apply Kd.R_alloc | apply Kd.R_drewN | apply Kd.R_drew)); exact (Kd.R_mono (Kd.R_far (p := ⟨gb330, 3, none⟩) (Kd.R_far (p := ⟨gb330, 2, none⟩) (Kd.R_far (p := ⟨gb330, 1, none⟩) (Kd.R_far (p := ⟨gb330, 0, none⟩) (Kd.R_types HO_316000.out BK330.out (by decide)) (fun _ hk => by first | exact hk.2 | exact hk | exact ⟨hk.2, hk.1⟩ | simp_all) (.int .u64 t325)) (fun _ hk => by first | exact hk.2 | exact hk | exact ⟨hk.2, hk.1⟩ | simp_all) (.int .u64 t326)) (fun _ hk => by first | exact hk.2 | exact hk | exact ⟨hk.2, hk.1⟩ | simp_all) (.int .u64 t327)) (fun _ hk => by first | exact hk.2 | exact hk | exact ⟨hk.2, hk.1⟩ | simp_all) (.int .u64 t328)) (fun _ h_ => h_.1))) hb); have n1_ := Aside0.mk (Kd.R_below (by (with_reducible repeat (first | apply Kd.R_alloc | apply Kd.R_drewN | apply Kd.R_drew)); exact (Kd.R_mono (Kd.R_far (p := ⟨gb330, 3, none⟩) (Kd.R_far (p := ⟨gb330, 2, none⟩) (Kd.R_far (p := ⟨gb330, 1, none⟩) (Kd.R_far (p := ⟨gb330, 0, none⟩) (Kd.R_types HO_317000.out BK330.out (by decide)) (fun _ hk => by first | exact hk.2 | exact hk | exact ⟨hk.2, hk.1⟩ | simp_all) (.int .u64 t325)) (fun _ hk => by first | exact hk.2 | exact hk | exact ⟨hk.2, hk.1⟩ | simp_all) (.int .u64 t326)) (fun _ hk => by first | exact hk.2 | exact hk | exact ⟨hk.2, hk.1⟩ | simp_all) (.int .u64 t327)) (fun _ hk => by first | exact hk.2 | exact hk | exact ⟨hk.2, hk.1⟩ | simp_all) (.int .u64 t328)) (fun _ h_ => h_.1))) hb); have n2_ := Aside0.mk (Kd.R_below (by (with_reducible repeat (first | apply Kd.R_alloc | apply Kd.R_drewN | apply Kd.R_drew)); exact (Kd.R_mono (Kd.R_far (p := ⟨gb330, 3, none⟩) (Kd.R_far (p := ⟨gb330, 2, none⟩) (Kd.R_far (p := ⟨gb330, 1, none⟩) (Kd.R_far (p := ⟨gb330, 0, none⟩) (Kd.R_types HO_320001.out BK330.out (by decide)) (fun _ hk => by first | exact hk.2 | exact hk | exact ⟨hk.2, hk.1⟩ | simp_all) (.int .u64 t325)) (fun _ hk => by first | exact hk.2 | exact hk | exact ⟨hk.2, hk.1⟩ | simp_all) (.int .u64 t326)) (fun _ hk => by first | exact hk.2 | exact hk | exact ⟨hk.2, hk.1⟩ | simp_all) (.int .u64 t327)) (fun _ hk => by first | exact hk.2 | exact hk | exact ⟨hk.2, hk.1⟩ | simp_all) (.int .u64 t328)) (fun _ h_ => h_.1))) hb); have n3_ := Aside0.mk (blk_below (g := gb303) (o := .cells #[.int .u64 a1_0, .slice A1_1 l1_1.length c1_1, .int .u64 a1_2, .slice A1_3 l1_3.length c1_3] 57 (0, 0)) (by (with_reducible repeat (first | refine blk_drewN ?_ _ | refine blk_drew ?_ | refine blk_alloc ?_ _)); refine blk_far ?_ NB303_330.out _; (with_reducible repeat (first | refine blk_drewN ?_ _ | refine blk_drew ?_ | refine blk_alloc ?_ _)); refine blk_far ?_ NB303_330.out _; (with_reducible repeat (first | refine blk_drewN ?_ _ | refine blk_drew ?_ | refine blk_alloc ?_ _)); refine blk_far ?_ NB303_330.out _; (with_reducible repeat (first | refine blk_drewN ?_ _ | refine blk_drew ?_ | refine blk_alloc ?_ _)); refine blk_far ?_ NB303_330.out _; (with_reducible repeat (first | refine blk_drewN ?_ _ | refine blk_drew ?_ | refine blk_alloc ?_ _)); exact BK303.out) hb); have n4_ := Aside0.mk (blk_below (g := gb304) (o := .cells #[.int .i64 a2_0, .int .i64 a2_1, .int .i64 a2_2] 58 (0, 0)) (by (with_reducible repeat (first | refine blk_drewN ?_ _ | refine blk_drew ?_ | refine blk_alloc ?_ _)); refine blk_far ?_ NB304_330.out _; (with_reducible repeat (first | refine blk_drewN ?_ _ | refine blk_drew ?_ | refine blk_alloc ?_ _)); refine blk_far ?_ NB304_330.out _; (with_reducible repeat (first | refine blk_drewN ?_ _ | refine blk_drew ?_ | refine blk_alloc ?_ _)); refine blk_far ?_ NB304_330.out _; (with_reducible repeat (first | refine blk_drewN ?_ _ | refine blk_drew ?_ | refine blk_alloc ?_ _)); refine blk_far ?_ NB304_330.out _; (with_reducible repeat (first | refine blk_drewN ?_ _ | refine blk_drew ?_ | refine blk_alloc ?_ _)); exact BK304.out) hb); have n5_ := Aside0.mk (blk_below (g := gb315) (o := .cells #[.slice Ao26 t307.length co26, .int .i64 t310] 46 (0, 0)) (by (with_reducible repeat (first | refine blk_drewN ?_ _ | refine blk_drew ?_ | refine blk_alloc ?_ _)); refine blk_far ?_ NB315_330.out _; (with_reducible repeat (first | refine blk_drewN ?_ _ | refine blk_drew ?_ | refine blk_alloc ?_ _)); refine blk_far ?_ NB315_330.out _; (with_reducible repeat (first | refine blk_drewN ?_ _ | refine blk_drew ?_ | refine blk_alloc ?_ _)); refine blk_far ?_ NB315_330.out _; (with_reducible repeat (first | refine blk_drewN ?_ _ | refine blk_drew ?_ | refine blk_alloc ?_ _)); refine blk_far ?_ NB315_330.out _; (with_reducible repeat (first | refine blk_drewN ?_ _ | refine blk_drew ?_ | refine blk_alloc ?_ _)); exact BK315.out) hb); have n6_ := Aside0.mk (blk_below (g := gb316) (o := .cells #[.slice Ao31 t311.length co31, .int .i64 t314] 46 (0, 0)) (by (with_reducible repeat (first | refine blk_drewN ?_ _ | refine blk_drew ?_ | refine blk_alloc ?_ _)); refine blk_far ?_ NB316_330.out _; (with_reducible repeat (first | refine blk_drewN ?_ _ | refine blk_drew ?_ | refine blk_alloc ?_ _)); refine blk_far ?_ NB316_330.out _; (with_reducible repeat (first | refine blk_drewN ?_ _ | refine blk_drew ?_ | refine blk_alloc ?_ _)); refine blk_far ?_ NB316_330.out _; (with_reducible repeat (first | refine blk_drewN ?_ _ | refine blk_drew ?_ | refine blk_alloc ?_ _)); refine blk_far ?_ NB316_330.out _; (with_reducible repeat (first | refine blk_drewN ?_ _ | refine blk_drew ?_ | refine blk_alloc ?_ _)); exact BK316.out) hb); have n7_ := Aside0.mk (blk_below (g := gb319) (o := .cells #[.int .u64 (rd l0 a2_1), .slice Ao26 t307.length co26] 50 (0, 0)) (by (with_reducible repeat (first | refine blk_drewN ?_ _ | refine blk_drew ?_ | refine blk_alloc ?_ _)); refine blk_far ?_ NB319_330.out _; (with_reducible repeat (first | refine blk_drewN ?_ _ | refine blk_drew ?_ | refine blk_alloc ?_ _)); refine blk_far ?_ NB319_330.out _; (with_reducible repeat (first | refine blk_drewN ?_ _ | refine blk_drew ?_ | refine blk_alloc ?_ _)); refine blk_far ?_ NB319_330.out _; (with_reducible repeat (first | refine blk_drewN ?_ _ | refine blk_drew ?_ | refine blk_alloc ?_ _)); refine blk_far ?_ NB319_330.out _; (with_reducible repeat (first | refine blk_drewN ?_ _ | refine blk_drew ?_ | refine blk_alloc ?_ _)); exact BK319.out) hb); have n8_ := Aside0.mk (blk_below (g := gb330) (o := .cells #[.int .u64 t325, .int .u64 t326, .int .u64 t327, .int .u64 t328] 60 (0, 0)) (by (with_reducible repeat (first | refine blk_drewN ?_ _ | refine blk_drew ?_ | refine blk_alloc ?_ _)); refine blk_put (cs := #[.int .u64 t325, .int .u64 t326, .int .u64 t327, .int .u64 0]) ?_ 3 _ rfl; (with_reducible repeat (first | refine blk_drewN ?_ _ | refine blk_drew ?_ | refine blk_alloc ?_ _)); refine blk_put (cs := #[.int .u64 t325, .int .u64 t326, .int .u64 0, .int .u64 0]) ?_ 2 _ rfl; (with_reducible repeat (first | refine blk_drewN ?_ _ | refine blk_drew ?_ | refine blk_alloc ?_ _)); refine blk_put (cs := #[.int .u64 t325, .int .u64 0, .int .u64 0, .int .u64 0]) ?_ 1 _ rfl; (with_reducible repeat (first | refine blk_drewN ?_ _ | refine blk_drew ?_ | refine blk_alloc ?_ _)); refine blk_put (cs := #[.int .u64 0, .int .u64 0, .int .u64 0, .int .u64 0]) ?_ 0 _ rfl; (with_reducible repeat (first | refine blk_drewN ?_ _ | refine blk_drew ?_ | refine blk_alloc ?_ _)); exact BK330.out) hb); have n9_ := Aside0.mk (below_step (by repeat (first | (with_reducible first | exact HB.out | apply below_alloc | apply pw_below_drewN | apply below_drew1 | refine below_set ?_ GE303.out | refine below_set ?_ GE304.out | refine below_set ?_ GE315.out | refine below_set ?_ GE316.out | refine below_set ?_ GE319.out | refine below_set ?_ GE330.out) | exact HB.out)) hb); clear HO_316000; clear HO_317000; clear HO_320001; clear BK303; clear BK304; clear BK315; clear BK316; clear BK319; clear BK330; clear HB; have HO_316000 := n0_; have HO_317000 := n1_; have HO_320001 := n2_; have BK303 := n3_; have BK304 := n4_; have BK315 := n5_; have BK316 := n6_; have BK319 := n7_; have BK330 := n8_; have HB := n9_; clear n0_ n1_ n2_ n3_ n4_ n5_ n6_ n7_ n8_ n9_; (try clear hb); (try clear hb2); (try clear hk); (try clear hi)) | ((with_reducible refine gate_dst (N := 16) rfl ?_); (try (refine gate_guard (by rfl) ?_; dsimp only)); refine box_event ?hg (N := 16) ?hd (cs := #[.int .u64 0, .int .u64 0, .int .u64 0, .int .u64 0, .bool false]) (t := 64) ?hr ?_; (case hd => rfl); (case hg => rfl); (case hr => first | (go_simp; done) | (go_simp; rfl)); intro gb336 hg w133 hbox hb; have n0_ := Aside0.mk (Kd.R_below (by (with_reducible repeat (first | apply Kd.R_alloc | apply Kd.R_drewN | apply Kd.R_drew)); exact HO_316000.out) hb); have n1_ := Aside0.mk (Kd.R_below (by (with_reducible repeat (first | apply Kd.R_alloc | apply Kd.R_drewN | apply Kd.R_drew)); exact HO_317000.out) hb); have n2_ := Aside0.mk (Kd.R_below (by (with_reducible repeat (first | apply Kd.R_alloc | apply Kd.R_drewN | apply Kd.R_drew)); exact HO_320001.out) hb); have n3_ := Aside0.mk (blk_below (g := gb303) (o := .cells #[.int .u64 a1_0, .slice A1_1 l1_1.length c1_1, .int .u64 a1_2, .slice A1_3 l1_3.length c1_3] 57 (0, 0)) (by (with_reducible repeat (first | refine blk_drewN ?_ _ | refine blk_drew ?_ | refine blk_alloc ?_ _)); exact BK303.out) hb); have n4_ := Aside0.mk (blk_below (g := gb304) (o := .cells #[.int .i64 a2_0, .int .i64 a2_1, .int .i64 a2_2] 58 (0, 0)) (by (with_reducible repeat (first | refine blk_drewN ?_ _ | refine blk_drew ?_ | refine blk_alloc ?_ _)); exact BK304.out) hb); have n5_ := Aside0.mk (blk_below (g := gb315) (o := .cells #[.slice Ao26 t307.length co26, .int .i64 t310] 46 (0, 0)) (by (with_reducible repeat (first | refine blk_drewN ?_ _ | refine blk_drew ?_ | refine blk_alloc ?_ _)); exact BK315.out) hb); have n6_ := Aside0.mk (blk_below (g := gb316) (o := .cells #[.slice Ao31 t311.length co31, .int .i64 t314] 46 (0, 0)) (by (with_reducible repeat (first | refine blk_drewN ?_ _ | refine blk_drew ?_ | refine blk_alloc ?_ _)); exact BK316.out) hb); have n7_ := Aside0.mk (blk_below (g := gb319) (o := .cells #[.int .u64 (rd l0 a2_1), .slice Ao26 t307.length co26] 50 (0, 0)) (by (with_reducible repeat (first | refine blk_drewN ?_ _ | refine blk_drew ?_ | refine blk_alloc ?_ _)); exact BK319.out) hb); have n8_ := Aside0.mk (blk_below (g := gb330) (o := .cells #[.int .u64 t325, .int .u64 t326, .int .u64 t327, .int .u64 t328] 60 (0, 0)) (by (with_reducible repeat (first | refine blk_drewN ?_ _ | refine blk_drew ?_ | refine blk_alloc ?_ _)); exact BK330.out) hb); have n9_ := Aside0.mk (below_step (by repeat (first | (with_reducible first | exact HB.out | apply below_alloc | apply pw_below_drewN | apply below_drew1 | refine below_set ?_ GE303.out | refine below_set ?_ GE304.out | refine below_set ?_ GE315.out | refine below_set ?_ GE316.out | refine below_set ?_ GE319.out | refine below_set ?_ GE330.out) | exact HB.out)) hb); have n10_ := Aside0.mk (hbox); have n11_ := Aside0.mk ((by rw [hg]; exact (below_size (by repeat (first | (with_reducible first | exact HB.out | apply below_alloc | apply pw_below_drewN | apply below_drew1 | refine below_set ?_ GE303.out | refine below_set ?_ GE304.out | refine below_set ?_ GE315.out | refine below_set ?_ GE316.out | refine below_set ?_ GE319.out | refine below_set ?_ GE330.out) | exact HB.out))) : w.heap.size ≤ gb336)); have n12_ := Aside0.mk ((by rw [hg]; exact (below_size (by repeat (first | (with_reducible first | exact HB.out | apply below_alloc | apply pw_below_drewN | apply below_drew1 | refine below_set ?_ GE303.out | refine below_set ?_ GE304.out | refine below_set ?_ GE315.out | refine below_set ?_ GE316.out | refine below_set ?_ GE319.out | refine below_set ?_ GE330.out) | exact HB.out))) : w.heap.size ≤ gb336)); have n13_ := Aside0.mk ((by rw [hg]; exact Nat.ne_of_lt (blk_lt (g := gb303) (o := .cells #[.int .u64 a1_0, .slice A1_1 l1_1.length c1_1, .int .u64 a1_2, .slice A1_3 l1_3.length c1_3] 57 (0, 0)) (by (with_reducible repeat (first | refine blk_drewN ?_ _ | refine blk_drew ?_ | refine blk_alloc ?_ _)); exact BK303.out)) : gb303 ≠ gb336)); have n14_ := Aside0.mk ((by rw [hg]; exact Nat.ne_of_gt (blk_lt (g := gb303) (o := .cells #[.int .u64 a1_0, .slice A1_1 l1_1.length c1_1, .int .u64 a1_2, .slice A1_3 l1_3.length c1_3] 57 (0, 0)) (by (with_reducible repeat (first | refine blk_drewN ?_ _ | refine blk_drew ?_ | refine blk_alloc ?_ _)); exact BK303.out)) : gb336 ≠ gb303)); have n15_ := Aside0.mk ((by rw [hg]; exact Nat.ne_of_lt (blk_lt (g := gb304) (o := .cells #[.int .i64 a2_0, .int .i64 a2_1, .int .i64 a2_2] 58 (0, 0)) (by (with_reducible repeat (first | refine blk_drewN ?_ _ | refine blk_drew ?_ | refine blk_alloc ?_ _)); exact BK304.out)) : gb304 ≠ gb336)); have n16_ := Aside0.mk ((by rw [hg]; exact Nat.ne_of_gt (blk_lt (g := gb304) (o := .cells #[.int .i64 a2_0, .int .i64 a2_1, .int .i64 a2_2] 58 (0, 0)) (by (with_reducible repeat (first | refine blk_drewN ?_ _ | refine blk_drew ?_ | refine blk_alloc ?_ _)); exact BK304.out)) : gb336 ≠ gb304)); have n17_ := Aside0.mk ((by rw [hg]; exact Nat.ne_of_lt (blk_lt (g := gb315) (o := .cells #[.slice Ao26 t307.length co26, .int .i64 t310] 46 (0, 0)) (by (with_reducible repeat (first | refine blk_drewN ?_ _ | refine blk_drew ?_ | refine blk_alloc ?_ _)); exact BK315.out)) : gb315 ≠ gb336)); have n18_ := Aside0.mk ((by rw [hg]; exact Nat.ne_of_gt (blk_lt (g := gb315) (o := .cells #[.slice Ao26 t307.length co26, .int .i64 t310] 46 (0, 0)) (by (with_reducible repeat (first | refine blk_drewN ?_ _ | refine blk_drew ?_ | refine blk_alloc ?_ _)); exact BK315.out)) : gb336 ≠ gb315)); have n19_ := Aside0.mk ((by rw [hg]; exact Nat.ne_of_lt (blk_lt (g := gb316) (o := .cells #[.slice Ao31 t311.length co31, .int .i64 t314] 46 (0, 0)) (by (with_reducible repeat (first | refine blk_drewN ?_ _ | refine blk_drew ?_ | refine blk_alloc ?_ _)); exact BK316.out)) : gb316 ≠ gb336)); have n20_ := Aside0.mk ((by rw [hg]; exact Nat.ne_of_gt (blk_lt (g := gb316) (o := .cells #[.slice Ao31 t311.length co31, .int .i64 t314] 46 (0, 0)) (by (with_reducible repeat (first | refine blk_drewN ?_ _ | refine blk_drew ?_ | refine blk_alloc ?_ _)); exact BK316.out)) : gb336 ≠ gb316)); have n21_ := Aside0.mk ((by rw [hg]; exact Nat.ne_of_lt (blk_lt (g := gb319) (o := .cells #[.int .u64 (rd l0 a2_1), .slice Ao26 t307.length co26] 50 (0, 0)) (by (with_reducible repeat (first | refine blk_drewN ?_ _ | refine blk_drew ?_ | refine blk_alloc ?_ _)); exact BK319.out)) : gb319 ≠ gb336)); have n22_ := Aside0.mk ((by rw [hg]; exact Nat.ne_of_gt (blk_lt (g := gb319) (o := .cells #[.int .u64 (rd l0 a2_1), .slice Ao26 t307.length co26] 50 (0, 0)) (by (with_reducible repeat (first | refine blk_drewN ?_ _ | refine blk_drew ?_ | refine blk_alloc ?_ _)); exact BK319.out)) : gb336 ≠ gb319)); have n23_ := Aside0.mk ((by rw [hg]; exact Nat.ne_of_lt (blk_lt (g := gb330) (o := .cells #[.int .u64 t325, .int .u64 t326, .int .u64 t327, .int .u64 t328] 60 (0, 0)) (by (with_reducible repeat (first | refine blk_drewN ?_ _ | refine blk_drew ?_ | refine blk_alloc ?_ _)); exact BK330.out)) : gb330 ≠ gb336)); have n24_ := Aside0.mk ((by rw [hg]; exact Nat.ne_of_gt (blk_lt (g := gb330) (o := .cells #[.int .u64 t325, .int .u64 t326, .int .u64 t327, .int .u64 t328] 60 (0, 0)) (by (with_reducible repeat (first | refine blk_drewN ?_ _ | refine blk_drew ?_ | refine blk_alloc ?_ _)); exact BK330.out)) : gb336 ≠ gb330)); clear HO_316000; clear HO_317000; clear HO_320001; clear BK303; clear BK304; clear BK315; clear BK316; clear BK319; clear BK330; clear HB; have HO_316000 := n0_; have HO_317000 := n1_; have HO_320001 := n2_; have BK303 := n3_; have BK304 := n4_; have BK315 := n5_; have BK316 := n6_; have BK319 := n7_; have BK330 := n8_; have HB := n9_; have BK336 := n10_; have GW336 := n11_; have GE336 := n12_; have NB303_336 := n13_; have NB336_303 := n14_; have NB304_336 := n15_; have NB336_304 := n16_; have NB315_336 := n17_; have NB336_315 := n18_; have NB316_336 := n19_; have NB336_316 := n20_; have NB319_336 := n21_; have NB336_319 := n22_; have NB330_336 := n23_; have NB336_330 := n24_; clear n0_ n1_ n2_ n3_ n4_ n5_ n6_ n7_ n8_ n9_ n10_ n11_ n12_ n13_ n14_ n15_ n16_ n17_ n18_ n19_ n20_ n21_ n22_ n23_ n24_; clear hb hbox hg; have hnb134 := NB336_303.out; have hnc134 := NB303_336.out; have hnb135 := NB336_304.out; have hnc135 := NB304_336.out; have hnb136 := NB336_315.out; have hnc136 := NB315_336.out; have hnb137 := NB336_316.out; have hnc137 := NB316_336.out; have hnb138 := NB336_319.out; have hnc138 := NB319_336.out; have hnb139 := NB336_330.out; have hnc139 := NB330_336.out; have hcz140_0 : w133.cell? ⟨gb336, 0, none⟩ = some (.int .u64 0) := (blk_cell BK336.out 0).trans rfl; have hcz140_1 : w133.cell? ⟨gb336, 1, none⟩ = some (.int .u64 0) := (blk_cell BK336.out 1).trans rfl; have hcz140_2 : w133.cell? ⟨gb336, 2, none⟩ = some (.int .u64 0) := (blk_cell BK336.out 2).trans rfl; have hcz140_3 : w133.cell? ⟨gb336, 3, none⟩ = some (.int .u64 0) := (blk_cell BK336.out 3).trans rfl; have hcz140_4 : w133.cell? ⟨gb336, 4, none⟩ = some (.bool false) := (blk_cell BK336.out 4).trans rfl; have hfz140_0 := blk_frozen BK336.out 0; have hfz140_1 := blk_frozen BK336.out 1; have hfz140_2 := blk_frozen BK336.out 2; have hfz140_3 := blk_frozen BK336.out 3; have hfz140_4 := blk_frozen BK336.out 4; have hcz141_0 : w133.cell? ⟨gb330, 0, none⟩ = some (.int .u64 t325) := (blk_cell BK330.out 0).trans rfl; have hcz141_1 : w133.cell? ⟨gb330, 1, none⟩ = some (.int .u64 t326) := (blk_cell BK330.out 1).trans rfl; have hcz141_2 : w133.cell? ⟨gb330, 2, none⟩ = some (.int .u64 t327) := (blk_cell BK330.out 2).trans rfl; have hcz141_3 : w133.cell? ⟨gb330, 3, none⟩ = some (.int .u64 t328) := (blk_cell BK330.out 3).trans rfl; have hfz141_0 := blk_frozen BK330.out 0; have hfz141_1 := blk_frozen BK330.out 1; have hfz141_2 := blk_frozen BK330.out 2; have hfz141_3 := blk_frozen BK330.out 3))
                     go_ret
                     exact ⟨by first | rfl | (simp [errW_none, errW_some] <;> rfl) | (simp [*, errW_none, errW_some] <;> rfl), by repeat (first | (with_reducible first | exact HB.out | apply below_alloc | apply pw_below_drewN | apply below_drew1 | refine below_set ?_ GE303.out | refine below_set ?_ GE304.out | refine below_set ?_ GE315.out | refine below_set ?_ GE316.out | refine below_set ?_ GE319.out | refine below_set ?_ GE330.out | refine below_set ?_ GE336.out) | exact HB.out)⟩
                    ·
                     rw [if_neg c112] at H
                     exact absurd H (by simp)
                   ·
                    rw [if_neg c111] at H
                    exact absurd H (by simp)
                  ·
                   rw [if_neg c110] at H
                   exact absurd H (by simp)
                 ·
                  rw [if_neg c109] at H
                  exact absurd H (by simp)
                ·
                 rw [if_neg c108] at H
                 exact absurd H (by simp)
            ·
             rw [if_neg c85] at H
             exact absurd H (by simp)
           ·
            rw [if_neg c84] at H
            exact absurd H (by simp)
          ·
           replace c83 := Bool.eq_false_iff.mpr c83
           subst c83
           have H1 : ((parolelaw04_check.f t306 a2_0 a2_1 a1_0 l1_1).bind fun t337 => ((paroleref04_Check.f kj56 t306 a2_0 a2_1 a1_0 l1_1).bind fun t338 => (if t337 = t338 then ((parolelaw04_check.f a1_0 a2_0 a2_1 a1_2 l1_3).bind fun t339 => ((paroleref04_Check.f kj56 a1_0 a2_0 a2_1 a1_2 l1_3).bind fun t340 => (parolelaw04_MerkleMatchesReference.j4 kj56 true a2_0 a2_1 (t339 != t340) a1_0 l1_1 a1_2 l1_3 a1_0 l1_1))) else (parolelaw04_MerkleMatchesReference.j4 kj56 true a2_0 a2_1 true a1_0 l1_1 a1_2 l1_3 a1_0 l1_1)))) = some r := by rw [if_neg (show ¬ (false = true) by decide)] at H; exact H
           clear H
           have H := H1
           clear H1
           have HC142 := Aside0.mk H
           clear H
           go_upto_region 15 with (fail)
           go_cut [118] (fun v118 wc => ∃ (kq : Nat) (x118_141 : Bool), v118 = .bool x118_141 ∧ Aside0 (parolelaw04_MerkleMatchesReference.j4 kq true a2_0 a2_1 x118_141 a1_0 l1_1 a1_2 l1_3 a1_0 l1_1 = some r) ∧ Aside0 (kq ≤ kj56) ∧ Aside0 (Kd.R (Kd.int .u64) 22 wc w.heap.size (fun k_ => some k_ ≠ ((.slice Ao31 t311.length co31) : Value).ownBlock) (.slice Ao26 t307.length co26) t307) ∧ Aside0 (Kd.R (Kd.int .u64) 22 wc w.heap.size (fun k_ => some k_ ≠ ((.slice Ao26 t307.length co26) : Value).ownBlock) (.slice Ao31 t311.length co31) t311) ∧ Aside0 (wc.heap[gb303]? = some (.cells #[.int .u64 a1_0, (.slice A1_1 l1_1.length c1_1), .int .u64 a1_2, (.slice A1_3 l1_3.length c1_3)] 57 (0, 0))) ∧ Aside0 (wc.heap[gb304]? = some (.cells #[.int .i64 a2_0, .int .i64 a2_1, .int .i64 a2_2] 58 (0, 0))) ∧ Aside0 (wc.heap[gb315]? = some (.cells #[(.slice Ao26 t307.length co26), .int .i64 t310] 46 (0, 0))) ∧ Aside0 (wc.heap[gb316]? = some (.cells #[(.slice Ao31 t311.length co31), .int .i64 t314] 46 (0, 0))) ∧ Aside0 (wc.heap[gb319]? = some (.cells #[.int .u64 a1_0, (.slice A1_1 l1_1.length c1_1)] 50 (0, 0))) ∧ Aside0 (Below w.heap.size w wc))
           case first =>
            have H := HC142.out
            clear HC142
            replace H := Option.bind_eq_some_iff.mp H
            obtain ⟨t337, A1430, H⟩ := H
            replace H : ((paroleref04_Check.f kj56 t306 a2_0 a2_1 a1_0 l1_1).bind fun t338 => (if t337 = t338 then ((parolelaw04_check.f a1_0 a2_0 a2_1 a1_2 l1_3).bind fun t339 => ((paroleref04_Check.f kj56 a1_0 a2_0 a2_1 a1_2 l1_3).bind fun t340 => (parolelaw04_MerkleMatchesReference.j4 kj56 true a2_0 a2_1 (t339 != t340) a1_0 l1_1 a1_2 l1_3 a1_0 l1_1))) else (parolelaw04_MerkleMatchesReference.j4 kj56 true a2_0 a2_1 true a1_0 l1_1 a1_2 l1_3 a1_0 l1_1))) = some r := H
            have A143 := Aside0.mk A1430
            clear A1430
            replace H := Option.bind_eq_some_iff.mp H
            obtain ⟨t338, A1440, H⟩ := H
            replace H : (if t337 = t338 then ((parolelaw04_check.f a1_0 a2_0 a2_1 a1_2 l1_3).bind fun t339 => ((paroleref04_Check.f kj56 a1_0 a2_0 a2_1 a1_2 l1_3).bind fun t340 => (parolelaw04_MerkleMatchesReference.j4 kj56 true a2_0 a2_1 (t339 != t340) a1_0 l1_1 a1_2 l1_3 a1_0 l1_1))) else (parolelaw04_MerkleMatchesReference.j4 kj56 true a2_0 a2_1 true a1_0 l1_1 a1_2 l1_3 a1_0 l1_1)) = some r := H
            have A144 := Aside0.mk A1440
            clear A1440
            by_cases c145 : t337 = t338
            ·
             rw [if_pos c145] at H
             have c145b0 : (t337 == t338) = true := beq_iff_eq.mpr c145
             have c145b1 : (t337 != t338) = false := bne_eq_false_iff_eq.mpr c145
             clear c145
             (first | rw [c145b0] | (simp only [i64_w, i32_w]; rw [c145b0]) | skip)
             replace H := Option.bind_eq_some_iff.mp H
             obtain ⟨t339, A1460, H⟩ := H
             replace H : ((paroleref04_Check.f kj56 a1_0 a2_0 a2_1 a1_2 l1_3).bind fun t340 => (parolelaw04_MerkleMatchesReference.j4 kj56 true a2_0 a2_1 (t339 != t340) a1_0 l1_1 a1_2 l1_3 a1_0 l1_1)) = some r := H
             have A146 := Aside0.mk A1460
             clear A1460
             replace H := Option.bind_eq_some_iff.mp H
             obtain ⟨t340, A1470, H⟩ := H
             replace H : (parolelaw04_MerkleMatchesReference.j4 kj56 true a2_0 a2_1 (t339 != t340) a1_0 l1_1 a1_2 l1_3 a1_0 l1_1) = some r := H
             have A147 := Aside0.mk A1470
             clear A1470
             have H' := Aside0.mk H
             clear H
             try go_wp2
             have n0_ := Aside0.mk (Kd.R_drew HO_316000.out)
             have n1_ := Aside0.mk (Kd.R_drew HO_317000.out)
             have n2_ := Aside0.mk (blk_drew BK303.out)
             have n3_ := Aside0.mk (blk_drew BK304.out)
             have n4_ := Aside0.mk (blk_drew BK315.out)
             have n5_ := Aside0.mk (blk_drew BK316.out)
             have n6_ := Aside0.mk (blk_drew BK319.out)
             have n7_ := Aside0.mk (below_drew1 HB.out)
             clear HO_316000
             clear HO_317000
             clear BK303
             clear BK304
             clear BK315
             clear BK316
             clear BK319
             clear HB
             have HO_316000 := n0_
             have HO_317000 := n1_
             have BK303 := n2_
             have BK304 := n3_
             have BK315 := n4_
             have BK316 := n5_
             have BK319 := n6_
             have HB := n7_
             clear n0_ n1_ n2_ n3_ n4_ n5_ n6_ n7_
             refine start_ (n := 30) (S := fun w' => w'.cell? ⟨gb319, 0, none⟩ = some (.int .u64 a1_0) ∧ w'.cell? ⟨gb319, 1, none⟩ = some (.slice A1_1 l1_1.length c1_1) ∧ w'.cell? ⟨gb303, 0, none⟩ = some (.int .u64 a1_0) ∧ w'.cell? ⟨gb303, 1, none⟩ = some (.slice A1_1 l1_1.length c1_1) ∧ w'.cell? ⟨gb303, 2, none⟩ = some (.int .u64 a1_2) ∧ w'.cell? ⟨gb303, 3, none⟩ = some (.slice A1_3 l1_3.length c1_3)) (ds := []) #[false, false, false, false, false, false, false, false, false, false, false, false, false, false, false, false, false, false, false, false, false, false, false, false, false, false, false, false, false, false] (by kernel_rfl) rfl rfl ⟨(blk_cell BK319.out 0).trans rfl, (blk_cell BK319.out 1).trans rfl, (blk_cell BK303.out 0).trans rfl, (blk_cell BK303.out 1).trans rfl, (blk_cell BK303.out 2).trans rfl, (blk_cell BK303.out 3).trans rfl⟩ (fun hHeld => ?_); refine with_tabW parolelaw04_MerkleMatchesReference.tab15 parolelaw04_MerkleMatchesReference.bits15 (fun HT_ HW_ => ?_)
             generalize wc.drew = w148 at HO_316000 HO_317000 BK303 BK304 BK315 BK316 BK319 HB hHeld ⊢
             refine pure_ (i := 0) (N := some 89) (v := ?_) (a' := ?_) (bl_14 30 1) rfl rfl (any_of HT_.out (by kernel_rfl)) (fun _ _ _ h => h) (Or.inl ⟨by rfl, ?_⟩) ?_ ?_; rotate_left; (· intro w'; go_simp; with_reducible rfl); rotate_left; (· simp only [Act.put, setIfInBounds_toArray, set_cons_zero, set_cons_succ, i64_w, i32_w]; rfl)
             refine pure_ (i := 1) (N := some 90) (v := ?_) (a' := ?_) (bl_14 30 3) rfl rfl (any_of HT_.out (by kernel_rfl)) (fun _ _ _ h => h) (Or.inl ⟨by rfl, ?_⟩) ?_ ?_; rotate_left; (· intro w'; go_simp; with_reducible rfl); rotate_left; (· simp only [Act.put, setIfInBounds_toArray, set_cons_zero, set_cons_succ, i64_w, i32_w]; rfl)
             refine pure_ (i := 2) (N := some 91) (v := ?_) (a' := ?_) (bl_14 30 7) rfl rfl (any_of HT_.out (by kernel_rfl)) (fun _ _ _ h => h) (Or.inl ⟨by rfl, ?_⟩) ?_ ?_; rotate_left; (· intro w'; go_simp; with_reducible rfl); rotate_left; (· simp only [Act.put, setIfInBounds_toArray, set_cons_zero, set_cons_succ, i64_w, i32_w]; rfl)
             refine pure_ (i := 5) (N := some 94) (v := ?_) (a' := ?_) (bl_14 30 39) rfl rfl (any_of HT_.out (by kernel_rfl)) (fun _ _ _ h => h) (Or.inl ⟨by rfl, ?_⟩) ?_ ?_; rotate_left; (· intro w'; go_simp; with_reducible rfl); rotate_left; (· simp only [Act.put, setIfInBounds_toArray, set_cons_zero, set_cons_succ, i64_w, i32_w]; rfl)
             refine pure_ (i := 6) (N := some 95) (v := ?_) (a' := ?_) (bl_14 30 103) rfl rfl (any_of HT_.out (by kernel_rfl)) (fun _ _ _ h => h) (Or.inl ⟨by rfl, ?_⟩) ?_ ?_; rotate_left; (· intro w'; go_simp; with_reducible rfl); rotate_left; (· simp only [Act.put, setIfInBounds_toArray, set_cons_zero, set_cons_succ, i64_w, i32_w]; rfl)
             refine pure_ (i := 7) (N := some 96) (v := ?_) (a' := ?_) (bl_14 30 231) rfl rfl (any_of HT_.out (by kernel_rfl)) (fun _ _ _ h => h) (Or.inl ⟨by rfl, ?_⟩) ?_ ?_; rotate_left; (· intro w'; go_simp; with_reducible rfl); rotate_left; (· simp only [Act.put, setIfInBounds_toArray, set_cons_zero, set_cons_succ, i64_w, i32_w]; rfl)
             refine take_ (i := 3) (N := some 92) (v := ?_) (a' := ?_) (bl_14 30 239) rfl rfl (take_ofW HT_.out HW_.out (by kernel_rfl)) (fun _ _ _ h => h) (Or.inl ⟨by rfl, ?_⟩) hHeld ?_ ?_; rotate_left; (· rintro w' ⟨s0, s1, s2, s3, s4, s5⟩; go_simp; with_reducible rfl); rotate_left; (· simp only [Act.put, setIfInBounds_toArray, set_cons_zero, set_cons_succ, i64_w, i32_w]; rfl)
             refine take_ (i := 8) (N := some 97) (v := ?_) (a' := ?_) (bl_14 30 495) rfl rfl (take_ofW HT_.out HW_.out (by kernel_rfl)) (fun _ _ _ h => h) (Or.inl ⟨by rfl, ?_⟩) hHeld ?_ ?_; rotate_left; (· rintro w' ⟨s0, s1, s2, s3, s4, s5⟩; go_simp; with_reducible rfl); rotate_left; (· simp only [Act.put, setIfInBounds_toArray, set_cons_zero, set_cons_succ, i64_w, i32_w]; rfl)
             refine one_ (i := 4) (N := some 93) (bl_14 30 511) rfl rfl (one_of HT_.out (by kernel_rfl)) (by decide) (fun K hK => ?_)
             refine goes_ Try.func35 (by kernel_rfl) rfl #[.int .u64 t306, .int .i64 a2_0, .int .i64 a2_1, .agg #[.int .u64 a1_0, .slice A1_1 l1_1.length c1_1]] (by rfl) rfl rfl (by (try simp only [map_toArray, map_cons, map_nil]); first | done | rfl) ?_
             with_reducible refine (parolelaw04_check.calls t306 a2_0 a2_1 a1_0 _ _ l1_1 t337 _ ?side1 ?side2 A143.out).mono ?_
             (case side1 => repeat (first | exact (Kd.C_below HR1_1.out HB.out) | (with_reducible refine Kd.C_alloc ?_ _) | (with_reducible refine Kd.C_drewN ?_ _) | (with_reducible refine Kd.C_drew ?_)))
             (case side2 => exact HC1_1.out)
             rintro e w149 ⟨rfl, hb⟩
             refine ⟨_, rfl, ?_⟩
             have n0_ := Aside0.mk (Kd.R_below (by (with_reducible repeat (first | apply Kd.R_alloc | apply Kd.R_drewN | apply Kd.R_drew)); exact HO_316000.out) hb)
             have n1_ := Aside0.mk (Kd.R_below (by (with_reducible repeat (first | apply Kd.R_alloc | apply Kd.R_drewN | apply Kd.R_drew)); exact HO_317000.out) hb)
             have n2_ := Aside0.mk (blk_below (g := gb303) (o := .cells #[.int .u64 a1_0, .slice A1_1 l1_1.length c1_1, .int .u64 a1_2, .slice A1_3 l1_3.length c1_3] 57 (0, 0)) (by (with_reducible repeat (first | refine blk_drewN ?_ _ | refine blk_drew ?_ | refine blk_alloc ?_ _)); exact BK303.out) hb)
             have n3_ := Aside0.mk (blk_below (g := gb304) (o := .cells #[.int .i64 a2_0, .int .i64 a2_1, .int .i64 a2_2] 58 (0, 0)) (by (with_reducible repeat (first | refine blk_drewN ?_ _ | refine blk_drew ?_ | refine blk_alloc ?_ _)); exact BK304.out) hb)
             have n4_ := Aside0.mk (blk_below (g := gb315) (o := .cells #[.slice Ao26 t307.length co26, .int .i64 t310] 46 (0, 0)) (by (with_reducible repeat (first | refine blk_drewN ?_ _ | refine blk_drew ?_ | refine blk_alloc ?_ _)); exact BK315.out) hb)
             have n5_ := Aside0.mk (blk_below (g := gb316) (o := .cells #[.slice Ao31 t311.length co31, .int .i64 t314] 46 (0, 0)) (by (with_reducible repeat (first | refine blk_drewN ?_ _ | refine blk_drew ?_ | refine blk_alloc ?_ _)); exact BK316.out) hb)
             have n6_ := Aside0.mk (blk_below (g := gb319) (o := .cells #[.int .u64 a1_0, .slice A1_1 l1_1.length c1_1] 50 (0, 0)) (by (with_reducible repeat (first | refine blk_drewN ?_ _ | refine blk_drew ?_ | refine blk_alloc ?_ _)); exact BK319.out) hb)
             have n7_ := Aside0.mk (below_step (by repeat (first | (with_reducible first | exact HB.out | apply below_alloc | apply pw_below_drewN | apply below_drew1 | refine below_set ?_ GE303.out | refine below_set ?_ GE304.out | refine below_set ?_ GE315.out | refine below_set ?_ GE316.out | refine below_set ?_ GE319.out) | exact HB.out)) hb)
             clear HO_316000
             clear HO_317000
             clear BK303
             clear BK304
             clear BK315
             clear BK316
             clear BK319
             clear HB
             have HO_316000 := n0_
             have HO_317000 := n1_
             have BK303 := n2_
             have BK304 := n3_
             have BK315 := n4_
             have BK316 := n5_
             have BK319 := n6_
             have HB := n7_
             clear n0_ n1_ n2_ n3_ n4_ n5_ n6_ n7_
             (try clear hb)
             (try clear hb2)
             (try clear hk)
             (try clear hi)
             refine hK.out _ _ ⟨(blk_cell BK319.out 0).trans rfl, (blk_cell BK319.out 1).trans rfl, (blk_cell BK303.out 0).trans rfl, (blk_cell BK303.out 1).trans rfl, (blk_cell BK303.out 2).trans rfl, (blk_cell BK303.out 3).trans rfl⟩ (fun hHeld => ?_)
             clear hK K
             refine norm_ (a' := ?_) ?_ ?_
             rotate_left
             ·
              show Act.put _ (some 93) _ = _
              simp only [Act.put, setIfInBounds_toArray, set_cons_zero, set_cons_succ, i64_w, i32_w]
              rfl
             refine one_ (i := 9) (N := some 98) (bl_14 30 1023) rfl rfl (one_of HT_.out (by kernel_rfl)) (by decide) (fun K hK => ?_)
             refine goes_ Try.func39 (by kernel_rfl) rfl #[.int .u64 t306, .int .i64 a2_0, .int .i64 a2_1, .agg #[.int .u64 a1_0, .slice A1_1 l1_1.length c1_1]] (by rfl) rfl rfl (by (try simp only [map_toArray, map_cons, map_nil]); first | done | rfl) ?_
             with_reducible refine (paroleref04_Check.calls kj56 t306 a2_0 a2_1 a1_0 _ _ l1_1 t338 _ ?side1 ?side2 A144.out).mono ?_
             (case side1 => repeat (first | exact (Kd.C_below HR1_1.out HB.out) | (with_reducible refine Kd.C_alloc ?_ _) | (with_reducible refine Kd.C_drewN ?_ _) | (with_reducible refine Kd.C_drew ?_)))
             (case side2 => exact HC1_1.out)
             rintro e w150 ⟨rfl, hb⟩
             refine ⟨_, rfl, ?_⟩
             have n0_ := Aside0.mk (Kd.R_below (by (with_reducible repeat (first | apply Kd.R_alloc | apply Kd.R_drewN | apply Kd.R_drew)); exact HO_316000.out) hb)
             have n1_ := Aside0.mk (Kd.R_below (by (with_reducible repeat (first | apply Kd.R_alloc | apply Kd.R_drewN | apply Kd.R_drew)); exact HO_317000.out) hb)
             have n2_ := Aside0.mk (blk_below (g := gb303) (o := .cells #[.int .u64 a1_0, .slice A1_1 l1_1.length c1_1, .int .u64 a1_2, .slice A1_3 l1_3.length c1_3] 57 (0, 0)) (by (with_reducible repeat (first | refine blk_drewN ?_ _ | refine blk_drew ?_ | refine blk_alloc ?_ _)); exact BK303.out) hb)
             have n3_ := Aside0.mk (blk_below (g := gb304) (o := .cells #[.int .i64 a2_0, .int .i64 a2_1, .int .i64 a2_2] 58 (0, 0)) (by (with_reducible repeat (first | refine blk_drewN ?_ _ | refine blk_drew ?_ | refine blk_alloc ?_ _)); exact BK304.out) hb)
             have n4_ := Aside0.mk (blk_below (g := gb315) (o := .cells #[.slice Ao26 t307.length co26, .int .i64 t310] 46 (0, 0)) (by (with_reducible repeat (first | refine blk_drewN ?_ _ | refine blk_drew ?_ | refine blk_alloc ?_ _)); exact BK315.out) hb)
             have n5_ := Aside0.mk (blk_below (g := gb316) (o := .cells #[.slice Ao31 t311.length co31, .int .i64 t314] 46 (0, 0)) (by (with_reducible repeat (first | refine blk_drewN ?_ _ | refine blk_drew ?_ | refine blk_alloc ?_ _)); exact BK316.out) hb)
             have n6_ := Aside0.mk (blk_below (g := gb319) (o := .cells #[.int .u64 a1_0, .slice A1_1 l1_1.length c1_1] 50 (0, 0)) (by (with_reducible repeat (first | refine blk_drewN ?_ _ | refine blk_drew ?_ | refine blk_alloc ?_ _)); exact BK319.out) hb)
             have n7_ := Aside0.mk (below_step (by repeat (first | (with_reducible first | exact HB.out | apply below_alloc | apply pw_below_drewN | apply below_drew1 | refine below_set ?_ GE303.out | refine below_set ?_ GE304.out | refine below_set ?_ GE315.out | refine below_set ?_ GE316.out | refine below_set ?_ GE319.out) | exact HB.out)) hb)
             clear HO_316000
             clear HO_317000
             clear BK303
             clear BK304
             clear BK315
             clear BK316
             clear BK319
             clear HB
             have HO_316000 := n0_
             have HO_317000 := n1_
             have BK303 := n2_
             have BK304 := n3_
             have BK315 := n4_
             have BK316 := n5_
             have BK319 := n6_
             have HB := n7_
             clear n0_ n1_ n2_ n3_ n4_ n5_ n6_ n7_
             (try clear hb)
             (try clear hb2)
             (try clear hk)
             (try clear hi)
             refine hK.out _ _ ⟨(blk_cell BK319.out 0).trans rfl, (blk_cell BK319.out 1).trans rfl, (blk_cell BK303.out 0).trans rfl, (blk_cell BK303.out 1).trans rfl, (blk_cell BK303.out 2).trans rfl, (blk_cell BK303.out 3).trans rfl⟩ (fun hHeld => ?_)
             clear hK K
             refine norm_ (a' := ?_) ?_ ?_
             rotate_left
             ·
              show Act.put _ (some 98) _ = _
              simp only [Act.put, setIfInBounds_toArray, set_cons_zero, set_cons_succ, i64_w, i32_w]
              rfl
             refine pure_ (i := 10) (N := some 99) (v := ?_) (a' := ?_) (bl_14 30 2047) rfl rfl (any_of HT_.out (by kernel_rfl)) (fun _ _ _ h => h) (Or.inl ⟨by rfl, ?_⟩) ?_ ?_; rotate_left; (· intro w'; go_simp; with_reducible rfl); rotate_left; (· simp only [Act.put, setIfInBounds_toArray, set_cons_zero, set_cons_succ, i64_w, i32_w]; rfl)
             refine pure_ (i := 11) (N := some 100) (v := ?_) (a' := ?_) (bl_14 30 4095) rfl rfl (any_of HT_.out (by kernel_rfl)) (fun _ _ _ h => h) (Or.inl ⟨by rfl, ?_⟩) ?_ ?_; rotate_left; (· intro w'; go_simp; with_reducible rfl); rotate_left; (· simp only [Act.put, setIfInBounds_toArray, set_cons_zero, set_cons_succ, i64_w, i32_w]; rfl)
             refine pure_ (i := 12) (N := some 101) (v := ?_) (a' := ?_) (bl_14 30 8191) rfl rfl (any_of HT_.out (by kernel_rfl)) (fun _ _ _ h => h) (Or.inl ⟨by rfl, ?_⟩) ?_ ?_; rotate_left; (· intro w'; go_simp; with_reducible rfl); rotate_left; (· simp only [Act.put, setIfInBounds_toArray, set_cons_zero, set_cons_succ, i64_w, i32_w]; rfl)
             refine pure_ (i := 13) (N := some 102) (v := ?_) (a' := ?_) (bl_14 30 16383) rfl rfl (any_of HT_.out (by kernel_rfl)) (fun _ _ _ h => h) (Or.inl ⟨by rfl, ?_⟩) ?_ ?_; rotate_left; (· intro w'; go_simp; with_reducible rfl); rotate_left; (· simp only [Act.put, setIfInBounds_toArray, set_cons_zero, set_cons_succ, i64_w, i32_w]; rfl)
             refine pure_ (i := 15) (N := some 104) (v := ?_) (a' := ?_) (bl_14 30 49151) rfl rfl (any_of HT_.out (by kernel_rfl)) (fun _ _ _ h => h) (Or.inl ⟨by rfl, ?_⟩) ?_ ?_; rotate_left; (· intro w'; go_simp; with_reducible rfl); rotate_left; (· simp only [Act.put, setIfInBounds_toArray, set_cons_zero, set_cons_succ, i64_w, i32_w]; rfl)
             refine pure_ (i := 16) (N := some 105) (v := ?_) (a' := ?_) (bl_14 30 114687) rfl rfl (any_of HT_.out (by kernel_rfl)) (fun _ _ _ h => h) (Or.inl ⟨by rfl, ?_⟩) ?_ ?_; rotate_left; (· intro w'; go_simp; with_reducible rfl); rotate_left; (· simp only [Act.put, setIfInBounds_toArray, set_cons_zero, set_cons_succ, i64_w, i32_w]; rfl)
             refine pure_ (i := 17) (N := some 106) (v := ?_) (a' := ?_) (bl_14 30 245759) rfl rfl (any_of HT_.out (by kernel_rfl)) (fun _ _ _ h => h) (Or.inl ⟨by rfl, ?_⟩) ?_ ?_; rotate_left; (· intro w'; go_simp; with_reducible rfl); rotate_left; (· simp only [Act.put, setIfInBounds_toArray, set_cons_zero, set_cons_succ, i64_w, i32_w]; rfl)
             refine pure_ (i := 20) (N := some 109) (v := ?_) (a' := ?_) (bl_14 30 1294335) rfl rfl (any_of HT_.out (by kernel_rfl)) (fun _ _ _ h => h) (Or.inl ⟨by rfl, ?_⟩) ?_ ?_; rotate_left; (· intro w'; go_simp; with_reducible rfl); rotate_left; (· simp only [Act.put, setIfInBounds_toArray, set_cons_zero, set_cons_succ, i64_w, i32_w]; rfl)
             refine pure_ (i := 21) (N := some 110) (v := ?_) (a' := ?_) (bl_14 30 3391487) rfl rfl (any_of HT_.out (by kernel_rfl)) (fun _ _ _ h => h) (Or.inl ⟨by rfl, ?_⟩) ?_ ?_; rotate_left; (· intro w'; go_simp; with_reducible rfl); rotate_left; (· simp only [Act.put, setIfInBounds_toArray, set_cons_zero, set_cons_succ, i64_w, i32_w]; rfl)
             refine pure_ (i := 23) (N := some 112) (v := ?_) (a' := ?_) (bl_14 30 11780095) rfl rfl (any_of HT_.out (by kernel_rfl)) (fun _ _ _ h => h) (Or.inl ⟨by rfl, ?_⟩) ?_ ?_; rotate_left; (· intro w'; go_simp; with_reducible rfl); rotate_left; (· simp only [Act.put, setIfInBounds_toArray, set_cons_zero, set_cons_succ, i64_w, i32_w]; rfl)
             refine pure_ (i := 24) (N := some 113) (v := ?_) (a' := ?_) (bl_14 30 28557311) rfl rfl (any_of HT_.out (by kernel_rfl)) (fun _ _ _ h => h) (Or.inl ⟨by rfl, ?_⟩) ?_ ?_; rotate_left; (· intro w'; go_simp; with_reducible rfl); rotate_left; (· simp only [Act.put, setIfInBounds_toArray, set_cons_zero, set_cons_succ, i64_w, i32_w]; rfl)
             refine pure_ (i := 25) (N := some 114) (v := ?_) (a' := ?_) (bl_14 30 62111743) rfl rfl (any_of HT_.out (by kernel_rfl)) (fun _ _ _ h => h) (Or.inl ⟨by rfl, ?_⟩) ?_ ?_; rotate_left; (· intro w'; go_simp; with_reducible rfl); rotate_left; (· simp only [Act.put, setIfInBounds_toArray, set_cons_zero, set_cons_succ, i64_w, i32_w]; rfl)
             refine take_ (i := 14) (N := some 103) (v := ?_) (a' := ?_) (bl_14 30 62128127) rfl rfl (take_ofW HT_.out HW_.out (by kernel_rfl)) (fun _ _ _ h => h) (Or.inl ⟨by rfl, ?_⟩) hHeld ?_ ?_; rotate_left; (· rintro w' ⟨s0, s1, s2, s3, s4, s5⟩; go_simp; with_reducible rfl); rotate_left; (· simp only [Act.put, setIfInBounds_toArray, set_cons_zero, set_cons_succ, i64_w, i32_w]; rfl)
             refine take_ (i := 18) (N := some 107) (v := ?_) (a' := ?_) (bl_14 30 62390271) rfl rfl (take_ofW HT_.out HW_.out (by kernel_rfl)) (fun _ _ _ h => h) (Or.inl ⟨by rfl, ?_⟩) hHeld ?_ ?_; rotate_left; (· rintro w' ⟨s0, s1, s2, s3, s4, s5⟩; go_simp; with_reducible rfl); rotate_left; (· simp only [Act.put, setIfInBounds_toArray, set_cons_zero, set_cons_succ, i64_w, i32_w]; rfl)
             refine take_ (i := 22) (N := some 111) (v := ?_) (a' := ?_) (bl_14 30 66584575) rfl rfl (take_ofW HT_.out HW_.out (by kernel_rfl)) (fun _ _ _ h => h) (Or.inl ⟨by rfl, ?_⟩) hHeld ?_ ?_; rotate_left; (· rintro w' ⟨s0, s1, s2, s3, s4, s5⟩; go_simp; with_reducible rfl); rotate_left; (· simp only [Act.put, setIfInBounds_toArray, set_cons_zero, set_cons_succ, i64_w, i32_w]; rfl)
             refine take_ (i := 26) (N := some 115) (v := ?_) (a' := ?_) (bl_14 30 133693439) rfl rfl (take_ofW HT_.out HW_.out (by kernel_rfl)) (fun _ _ _ h => h) (Or.inl ⟨by rfl, ?_⟩) hHeld ?_ ?_; rotate_left; (· rintro w' ⟨s0, s1, s2, s3, s4, s5⟩; go_simp; with_reducible rfl); rotate_left; (· simp only [Act.put, setIfInBounds_toArray, set_cons_zero, set_cons_succ, i64_w, i32_w]; rfl)
             refine one_ (i := 19) (N := some 108) (bl_14 30 134217727) rfl rfl (one_of HT_.out (by kernel_rfl)) (by decide) (fun K hK => ?_)
             refine goes_ Try.func35 (by kernel_rfl) rfl #[.int .u64 a1_0, .int .i64 a2_0, .int .i64 a2_1, .agg #[.int .u64 a1_2, .slice A1_3 l1_3.length c1_3]] (by rfl) rfl rfl (by (try simp only [map_toArray, map_cons, map_nil]); first | done | rfl) ?_
             with_reducible refine (parolelaw04_check.calls a1_0 a2_0 a2_1 a1_2 _ _ l1_3 t339 _ ?side1 ?side2 A146.out).mono ?_
             (case side1 => repeat (first | exact (Kd.C_below HR1_3.out HB.out) | (with_reducible refine Kd.C_alloc ?_ _) | (with_reducible refine Kd.C_drewN ?_ _) | (with_reducible refine Kd.C_drew ?_)))
             (case side2 => exact HC1_3.out)
             rintro e w151 ⟨rfl, hb⟩
             refine ⟨_, rfl, ?_⟩
             have n0_ := Aside0.mk (Kd.R_below (by (with_reducible repeat (first | apply Kd.R_alloc | apply Kd.R_drewN | apply Kd.R_drew)); exact HO_316000.out) hb)
             have n1_ := Aside0.mk (Kd.R_below (by (with_reducible repeat (first | apply Kd.R_alloc | apply Kd.R_drewN | apply Kd.R_drew)); exact HO_317000.out) hb)
             have n2_ := Aside0.mk (blk_below (g := gb303) (o := .cells #[.int .u64 a1_0, .slice A1_1 l1_1.length c1_1, .int .u64 a1_2, .slice A1_3 l1_3.length c1_3] 57 (0, 0)) (by (with_reducible repeat (first | refine blk_drewN ?_ _ | refine blk_drew ?_ | refine blk_alloc ?_ _)); exact BK303.out) hb)
             have n3_ := Aside0.mk (blk_below (g := gb304) (o := .cells #[.int .i64 a2_0, .int .i64 a2_1, .int .i64 a2_2] 58 (0, 0)) (by (with_reducible repeat (first | refine blk_drewN ?_ _ | refine blk_drew ?_ | refine blk_alloc ?_ _)); exact BK304.out) hb)
             have n4_ := Aside0.mk (blk_below (g := gb315) (o := .cells #[.slice Ao26 t307.length co26, .int .i64 t310] 46 (0, 0)) (by (with_reducible repeat (first | refine blk_drewN ?_ _ | refine blk_drew ?_ | refine blk_alloc ?_ _)); exact BK315.out) hb)
             have n5_ := Aside0.mk (blk_below (g := gb316) (o := .cells #[.slice Ao31 t311.length co31, .int .i64 t314] 46 (0, 0)) (by (with_reducible repeat (first | refine blk_drewN ?_ _ | refine blk_drew ?_ | refine blk_alloc ?_ _)); exact BK316.out) hb)
             have n6_ := Aside0.mk (blk_below (g := gb319) (o := .cells #[.int .u64 a1_0, .slice A1_1 l1_1.length c1_1] 50 (0, 0)) (by (with_reducible repeat (first | refine blk_drewN ?_ _ | refine blk_drew ?_ | refine blk_alloc ?_ _)); exact BK319.out) hb)
             have n7_ := Aside0.mk (below_step (by repeat (first | (with_reducible first | exact HB.out | apply below_alloc | apply pw_below_drewN | apply below_drew1 | refine below_set ?_ GE303.out | refine below_set ?_ GE304.out | refine below_set ?_ GE315.out | refine below_set ?_ GE316.out | refine below_set ?_ GE319.out) | exact HB.out)) hb)
             clear HO_316000
             clear HO_317000
             clear BK303
             clear BK304
             clear BK315
             clear BK316
             clear BK319
             clear HB
             have HO_316000 := n0_
             have HO_317000 := n1_
             have BK303 := n2_
             have BK304 := n3_
             have BK315 := n4_
             have BK316 := n5_
             have BK319 := n6_
             have HB := n7_
             clear n0_ n1_ n2_ n3_ n4_ n5_ n6_ n7_
             (try clear hb)
             (try clear hb2)
             (try clear hk)
             (try clear hi)
             refine hK.out _ _ ⟨(blk_cell BK319.out 0).trans rfl, (blk_cell BK319.out 1).trans rfl, (blk_cell BK303.out 0).trans rfl, (blk_cell BK303.out 1).trans rfl, (blk_cell BK303.out 2).trans rfl, (blk_cell BK303.out 3).trans rfl⟩ (fun hHeld => ?_)
             clear hK K
             refine norm_ (a' := ?_) ?_ ?_
             rotate_left
             ·
              show Act.put _ (some 108) _ = _
              simp only [Act.put, setIfInBounds_toArray, set_cons_zero, set_cons_succ, i64_w, i32_w]
              rfl
             refine one_ (i := 27) (N := some 116) (bl_14 30 268435455) rfl rfl (one_of HT_.out (by kernel_rfl)) (by decide) (fun K hK => ?_)
             refine goes_ Try.func39 (by kernel_rfl) rfl #[.int .u64 a1_0, .int .i64 a2_0, .int .i64 a2_1, .agg #[.int .u64 a1_2, .slice A1_3 l1_3.length c1_3]] (by rfl) rfl rfl (by (try simp only [map_toArray, map_cons, map_nil]); first | done | rfl) ?_
             with_reducible refine (paroleref04_Check.calls kj56 a1_0 a2_0 a2_1 a1_2 _ _ l1_3 t340 _ ?side1 ?side2 A147.out).mono ?_
             (case side1 => repeat (first | exact (Kd.C_below HR1_3.out HB.out) | (with_reducible refine Kd.C_alloc ?_ _) | (with_reducible refine Kd.C_drewN ?_ _) | (with_reducible refine Kd.C_drew ?_)))
             (case side2 => exact HC1_3.out)
             rintro e w152 ⟨rfl, hb⟩
             refine ⟨_, rfl, ?_⟩
             have n0_ := Aside0.mk (Kd.R_below (by (with_reducible repeat (first | apply Kd.R_alloc | apply Kd.R_drewN | apply Kd.R_drew)); exact HO_316000.out) hb)
             have n1_ := Aside0.mk (Kd.R_below (by (with_reducible repeat (first | apply Kd.R_alloc | apply Kd.R_drewN | apply Kd.R_drew)); exact HO_317000.out) hb)
             have n2_ := Aside0.mk (blk_below (g := gb303) (o := .cells #[.int .u64 a1_0, .slice A1_1 l1_1.length c1_1, .int .u64 a1_2, .slice A1_3 l1_3.length c1_3] 57 (0, 0)) (by (with_reducible repeat (first | refine blk_drewN ?_ _ | refine blk_drew ?_ | refine blk_alloc ?_ _)); exact BK303.out) hb)
             have n3_ := Aside0.mk (blk_below (g := gb304) (o := .cells #[.int .i64 a2_0, .int .i64 a2_1, .int .i64 a2_2] 58 (0, 0)) (by (with_reducible repeat (first | refine blk_drewN ?_ _ | refine blk_drew ?_ | refine blk_alloc ?_ _)); exact BK304.out) hb)
             have n4_ := Aside0.mk (blk_below (g := gb315) (o := .cells #[.slice Ao26 t307.length co26, .int .i64 t310] 46 (0, 0)) (by (with_reducible repeat (first | refine blk_drewN ?_ _ | refine blk_drew ?_ | refine blk_alloc ?_ _)); exact BK315.out) hb)
             have n5_ := Aside0.mk (blk_below (g := gb316) (o := .cells #[.slice Ao31 t311.length co31, .int .i64 t314] 46 (0, 0)) (by (with_reducible repeat (first | refine blk_drewN ?_ _ | refine blk_drew ?_ | refine blk_alloc ?_ _)); exact BK316.out) hb)
             have n6_ := Aside0.mk (blk_below (g := gb319) (o := .cells #[.int .u64 a1_0, .slice A1_1 l1_1.length c1_1] 50 (0, 0)) (by (with_reducible repeat (first | refine blk_drewN ?_ _ | refine blk_drew ?_ | refine blk_alloc ?_ _)); exact BK319.out) hb)
             have n7_ := Aside0.mk (below_step (by repeat (first | (with_reducible first | exact HB.out | apply below_alloc | apply pw_below_drewN | apply below_drew1 | refine below_set ?_ GE303.out | refine below_set ?_ GE304.out | refine below_set ?_ GE315.out | refine below_set ?_ GE316.out | refine below_set ?_ GE319.out) | exact HB.out)) hb)
             clear HO_316000
             clear HO_317000
             clear BK303
             clear BK304
             clear BK315
             clear BK316
             clear BK319
             clear HB
             have HO_316000 := n0_
             have HO_317000 := n1_
             have BK303 := n2_
             have BK304 := n3_
             have BK315 := n4_
             have BK316 := n5_
             have BK319 := n6_
             have HB := n7_
             clear n0_ n1_ n2_ n3_ n4_ n5_ n6_ n7_
             (try clear hb)
             (try clear hb2)
             (try clear hk)
             (try clear hi)
             refine hK.out _ _ ⟨(blk_cell BK319.out 0).trans rfl, (blk_cell BK319.out 1).trans rfl, (blk_cell BK303.out 0).trans rfl, (blk_cell BK303.out 1).trans rfl, (blk_cell BK303.out 2).trans rfl, (blk_cell BK303.out 3).trans rfl⟩ (fun hHeld => ?_)
             clear hK K
             refine norm_ (a' := ?_) ?_ ?_
             rotate_left
             ·
              show Act.put _ (some 116) _ = _
              simp only [Act.put, setIfInBounds_toArray, set_cons_zero, set_cons_succ, i64_w, i32_w]
              rfl
             refine pure_ (i := 28) (N := some 117) (v := ?_) (a' := ?_) (bl_14 30 536870911) rfl rfl (any_of HT_.out (by kernel_rfl)) (fun _ _ _ h => h) (Or.inl ⟨by rfl, ?_⟩) ?_ ?_; rotate_left; (· intro w'; go_simp; with_reducible rfl); rotate_left; (· simp only [Act.put, setIfInBounds_toArray, set_cons_zero, set_cons_succ, i64_w, i32_w]; rfl)
             refine pure_ (i := 29) (N := some 118) (v := ?_) (a' := ?_) (bl_14 30 1073741823) rfl rfl (any_of HT_.out (by kernel_rfl)) (fun _ _ _ h => h) (Or.inl ⟨by rfl, ?_⟩) ?_ ?_; rotate_left; (· intro w'; go_simp; with_reducible rfl); rotate_left; (· simp only [Act.put, setIfInBounds_toArray, set_cons_zero, set_cons_succ, i64_w, i32_w]; rfl)
             refine done_ (done_of HT_.out (by kernel_rfl)) ?_
             try go_wp2
             go_meet
             case rel => exact ⟨_, ((t339 != t340)), (by first | rfl | (simp; done) | (simp [*]; done)), H', ⟨by have := HJ5.out; have := HJ19.out; have := HJ56.out; first | omega | exact Nat.le_refl _⟩, ⟨by (with_reducible repeat (first | apply Kd.R_alloc | apply Kd.R_drewN | apply Kd.R_drew)); exact HO_316000.out⟩, ⟨by (with_reducible repeat (first | apply Kd.R_alloc | apply Kd.R_drewN | apply Kd.R_drew)); exact HO_317000.out⟩, ⟨by (with_reducible repeat (first | refine blk_drewN ?_ _ | refine blk_drew ?_ | refine blk_alloc ?_ _)); exact BK303.out⟩, ⟨by (with_reducible repeat (first | refine blk_drewN ?_ _ | refine blk_drew ?_ | refine blk_alloc ?_ _)); exact BK304.out⟩, ⟨by (with_reducible repeat (first | refine blk_drewN ?_ _ | refine blk_drew ?_ | refine blk_alloc ?_ _)); exact BK315.out⟩, ⟨by (with_reducible repeat (first | refine blk_drewN ?_ _ | refine blk_drew ?_ | refine blk_alloc ?_ _)); exact BK316.out⟩, ⟨by (with_reducible repeat (first | refine blk_drewN ?_ _ | refine blk_drew ?_ | refine blk_alloc ?_ _)); exact BK319.out⟩, ⟨by repeat (first | (with_reducible first | exact HB.out | apply below_alloc | apply pw_below_drewN | apply below_drew1 | refine below_set ?_ GE303.out | refine below_set ?_ GE304.out | refine below_set ?_ GE315.out | refine below_set ?_ GE316.out | refine below_set ?_ GE319.out) | exact HB.out)⟩⟩
            ·
             rw [if_neg c145] at H
             have c145b0 : (t337 == t338) = false := beq_eq_false_iff_ne.mpr c145
             have c145b1 : (t337 != t338) = true := bne_iff_ne.mpr c145
             (first | rw [c145b0] | (simp only [i64_w, i32_w]; rw [c145b0]) | skip)
             have H' := Aside0.mk H
             clear H
             try go_wp2
             have n0_ := Aside0.mk (Kd.R_drew HO_316000.out)
             have n1_ := Aside0.mk (Kd.R_drew HO_317000.out)
             have n2_ := Aside0.mk (blk_drew BK303.out)
             have n3_ := Aside0.mk (blk_drew BK304.out)
             have n4_ := Aside0.mk (blk_drew BK315.out)
             have n5_ := Aside0.mk (blk_drew BK316.out)
             have n6_ := Aside0.mk (blk_drew BK319.out)
             have n7_ := Aside0.mk (below_drew1 HB.out)
             clear HO_316000
             clear HO_317000
             clear BK303
             clear BK304
             clear BK315
             clear BK316
             clear BK319
             clear HB
             have HO_316000 := n0_
             have HO_317000 := n1_
             have BK303 := n2_
             have BK304 := n3_
             have BK315 := n4_
             have BK316 := n5_
             have BK319 := n6_
             have HB := n7_
             clear n0_ n1_ n2_ n3_ n4_ n5_ n6_ n7_
             refine start_ (n := 30) (S := fun w' => w'.cell? ⟨gb319, 0, none⟩ = some (.int .u64 a1_0) ∧ w'.cell? ⟨gb319, 1, none⟩ = some (.slice A1_1 l1_1.length c1_1)) (ds := []) #[false, false, false, false, false, false, false, false, false, false, false, false, false, false, false, false, false, false, false, false, false, false, false, false, false, false, false, false, false, false] (by kernel_rfl) rfl rfl ⟨(blk_cell BK319.out 0).trans rfl, (blk_cell BK319.out 1).trans rfl⟩ (fun hHeld => ?_); refine with_tabW parolelaw04_MerkleMatchesReference.tab15 parolelaw04_MerkleMatchesReference.bits15 (fun HT_ HW_ => ?_)
             generalize wc.drew = w153 at HO_316000 HO_317000 BK303 BK304 BK315 BK316 BK319 HB hHeld ⊢
             refine pure_ (i := 0) (N := some 89) (v := ?_) (a' := ?_) (bl_14 30 1) rfl rfl (any_of HT_.out (by kernel_rfl)) (fun _ _ _ h => h) (Or.inl ⟨by rfl, ?_⟩) ?_ ?_; rotate_left; (· intro w'; go_simp; with_reducible rfl); rotate_left; (· simp only [Act.put, setIfInBounds_toArray, set_cons_zero, set_cons_succ, i64_w, i32_w]; rfl)
             refine pure_ (i := 1) (N := some 90) (v := ?_) (a' := ?_) (bl_14 30 3) rfl rfl (any_of HT_.out (by kernel_rfl)) (fun _ _ _ h => h) (Or.inl ⟨by rfl, ?_⟩) ?_ ?_; rotate_left; (· intro w'; go_simp; with_reducible rfl); rotate_left; (· simp only [Act.put, setIfInBounds_toArray, set_cons_zero, set_cons_succ, i64_w, i32_w]; rfl)
             refine pure_ (i := 2) (N := some 91) (v := ?_) (a' := ?_) (bl_14 30 7) rfl rfl (any_of HT_.out (by kernel_rfl)) (fun _ _ _ h => h) (Or.inl ⟨by rfl, ?_⟩) ?_ ?_; rotate_left; (· intro w'; go_simp; with_reducible rfl); rotate_left; (· simp only [Act.put, setIfInBounds_toArray, set_cons_zero, set_cons_succ, i64_w, i32_w]; rfl)
             refine pure_ (i := 5) (N := some 94) (v := ?_) (a' := ?_) (bl_14 30 39) rfl rfl (any_of HT_.out (by kernel_rfl)) (fun _ _ _ h => h) (Or.inl ⟨by rfl, ?_⟩) ?_ ?_; rotate_left; (· intro w'; go_simp; with_reducible rfl); rotate_left; (· simp only [Act.put, setIfInBounds_toArray, set_cons_zero, set_cons_succ, i64_w, i32_w]; rfl)
             refine pure_ (i := 6) (N := some 95) (v := ?_) (a' := ?_) (bl_14 30 103) rfl rfl (any_of HT_.out (by kernel_rfl)) (fun _ _ _ h => h) (Or.inl ⟨by rfl, ?_⟩) ?_ ?_; rotate_left; (· intro w'; go_simp; with_reducible rfl); rotate_left; (· simp only [Act.put, setIfInBounds_toArray, set_cons_zero, set_cons_succ, i64_w, i32_w]; rfl)
             refine pure_ (i := 7) (N := some 96) (v := ?_) (a' := ?_) (bl_14 30 231) rfl rfl (any_of HT_.out (by kernel_rfl)) (fun _ _ _ h => h) (Or.inl ⟨by rfl, ?_⟩) ?_ ?_; rotate_left; (· intro w'; go_simp; with_reducible rfl); rotate_left; (· simp only [Act.put, setIfInBounds_toArray, set_cons_zero, set_cons_succ, i64_w, i32_w]; rfl)
             refine take_ (i := 3) (N := some 92) (v := ?_) (a' := ?_) (bl_14 30 239) rfl rfl (take_ofW HT_.out HW_.out (by kernel_rfl)) (fun _ _ _ h => h) (Or.inl ⟨by rfl, ?_⟩) hHeld ?_ ?_; rotate_left; (· rintro w' ⟨s0, s1⟩; go_simp; with_reducible rfl); rotate_left; (· simp only [Act.put, setIfInBounds_toArray, set_cons_zero, set_cons_succ, i64_w, i32_w]; rfl)
             refine take_ (i := 8) (N := some 97) (v := ?_) (a' := ?_) (bl_14 30 495) rfl rfl (take_ofW HT_.out HW_.out (by kernel_rfl)) (fun _ _ _ h => h) (Or.inl ⟨by rfl, ?_⟩) hHeld ?_ ?_; rotate_left; (· rintro w' ⟨s0, s1⟩; go_simp; with_reducible rfl); rotate_left; (· simp only [Act.put, setIfInBounds_toArray, set_cons_zero, set_cons_succ, i64_w, i32_w]; rfl)
             refine one_ (i := 4) (N := some 93) (bl_14 30 511) rfl rfl (one_of HT_.out (by kernel_rfl)) (by decide) (fun K hK => ?_)
             refine goes_ Try.func35 (by kernel_rfl) rfl #[.int .u64 t306, .int .i64 a2_0, .int .i64 a2_1, .agg #[.int .u64 a1_0, .slice A1_1 l1_1.length c1_1]] (by rfl) rfl rfl (by (try simp only [map_toArray, map_cons, map_nil]); first | done | rfl) ?_
             with_reducible refine (parolelaw04_check.calls t306 a2_0 a2_1 a1_0 _ _ l1_1 t337 _ ?side1 ?side2 A143.out).mono ?_
             (case side1 => repeat (first | exact (Kd.C_below HR1_1.out HB.out) | (with_reducible refine Kd.C_alloc ?_ _) | (with_reducible refine Kd.C_drewN ?_ _) | (with_reducible refine Kd.C_drew ?_)))
             (case side2 => exact HC1_1.out)
             rintro e w154 ⟨rfl, hb⟩
             refine ⟨_, rfl, ?_⟩
             have n0_ := Aside0.mk (Kd.R_below (by (with_reducible repeat (first | apply Kd.R_alloc | apply Kd.R_drewN | apply Kd.R_drew)); exact HO_316000.out) hb)
             have n1_ := Aside0.mk (Kd.R_below (by (with_reducible repeat (first | apply Kd.R_alloc | apply Kd.R_drewN | apply Kd.R_drew)); exact HO_317000.out) hb)
             have n2_ := Aside0.mk (blk_below (g := gb303) (o := .cells #[.int .u64 a1_0, .slice A1_1 l1_1.length c1_1, .int .u64 a1_2, .slice A1_3 l1_3.length c1_3] 57 (0, 0)) (by (with_reducible repeat (first | refine blk_drewN ?_ _ | refine blk_drew ?_ | refine blk_alloc ?_ _)); exact BK303.out) hb)
             have n3_ := Aside0.mk (blk_below (g := gb304) (o := .cells #[.int .i64 a2_0, .int .i64 a2_1, .int .i64 a2_2] 58 (0, 0)) (by (with_reducible repeat (first | refine blk_drewN ?_ _ | refine blk_drew ?_ | refine blk_alloc ?_ _)); exact BK304.out) hb)
             have n4_ := Aside0.mk (blk_below (g := gb315) (o := .cells #[.slice Ao26 t307.length co26, .int .i64 t310] 46 (0, 0)) (by (with_reducible repeat (first | refine blk_drewN ?_ _ | refine blk_drew ?_ | refine blk_alloc ?_ _)); exact BK315.out) hb)
             have n5_ := Aside0.mk (blk_below (g := gb316) (o := .cells #[.slice Ao31 t311.length co31, .int .i64 t314] 46 (0, 0)) (by (with_reducible repeat (first | refine blk_drewN ?_ _ | refine blk_drew ?_ | refine blk_alloc ?_ _)); exact BK316.out) hb)
             have n6_ := Aside0.mk (blk_below (g := gb319) (o := .cells #[.int .u64 a1_0, .slice A1_1 l1_1.length c1_1] 50 (0, 0)) (by (with_reducible repeat (first | refine blk_drewN ?_ _ | refine blk_drew ?_ | refine blk_alloc ?_ _)); exact BK319.out) hb)
             have n7_ := Aside0.mk (below_step (by repeat (first | (with_reducible first | exact HB.out | apply below_alloc | apply pw_below_drewN | apply below_drew1 | refine below_set ?_ GE303.out | refine below_set ?_ GE304.out | refine below_set ?_ GE315.out | refine below_set ?_ GE316.out | refine below_set ?_ GE319.out) | exact HB.out)) hb)
             clear HO_316000
             clear HO_317000
             clear BK303
             clear BK304
             clear BK315
             clear BK316
             clear BK319
             clear HB
             have HO_316000 := n0_
             have HO_317000 := n1_
             have BK303 := n2_
             have BK304 := n3_
             have BK315 := n4_
             have BK316 := n5_
             have BK319 := n6_
             have HB := n7_
             clear n0_ n1_ n2_ n3_ n4_ n5_ n6_ n7_
             (try clear hb)
             (try clear hb2)
             (try clear hk)
             (try clear hi)
             refine hK.out _ _ ⟨(blk_cell BK319.out 0).trans rfl, (blk_cell BK319.out 1).trans rfl⟩ (fun hHeld => ?_)
             clear hK K
             refine norm_ (a' := ?_) ?_ ?_
             rotate_left
             ·
              show Act.put _ (some 93) _ = _
              simp only [Act.put, setIfInBounds_toArray, set_cons_zero, set_cons_succ, i64_w, i32_w]
              rfl
             refine one_ (i := 9) (N := some 98) (bl_14 30 1023) rfl rfl (one_of HT_.out (by kernel_rfl)) (by decide) (fun K hK => ?_)
             refine goes_ Try.func39 (by kernel_rfl) rfl #[.int .u64 t306, .int .i64 a2_0, .int .i64 a2_1, .agg #[.int .u64 a1_0, .slice A1_1 l1_1.length c1_1]] (by rfl) rfl rfl (by (try simp only [map_toArray, map_cons, map_nil]); first | done | rfl) ?_
             with_reducible refine (paroleref04_Check.calls kj56 t306 a2_0 a2_1 a1_0 _ _ l1_1 t338 _ ?side1 ?side2 A144.out).mono ?_
             (case side1 => repeat (first | exact (Kd.C_below HR1_1.out HB.out) | (with_reducible refine Kd.C_alloc ?_ _) | (with_reducible refine Kd.C_drewN ?_ _) | (with_reducible refine Kd.C_drew ?_)))
             (case side2 => exact HC1_1.out)
             rintro e w155 ⟨rfl, hb⟩
             refine ⟨_, rfl, ?_⟩
             have n0_ := Aside0.mk (Kd.R_below (by (with_reducible repeat (first | apply Kd.R_alloc | apply Kd.R_drewN | apply Kd.R_drew)); exact HO_316000.out) hb)
             have n1_ := Aside0.mk (Kd.R_below (by (with_reducible repeat (first | apply Kd.R_alloc | apply Kd.R_drewN | apply Kd.R_drew)); exact HO_317000.out) hb)
             have n2_ := Aside0.mk (blk_below (g := gb303) (o := .cells #[.int .u64 a1_0, .slice A1_1 l1_1.length c1_1, .int .u64 a1_2, .slice A1_3 l1_3.length c1_3] 57 (0, 0)) (by (with_reducible repeat (first | refine blk_drewN ?_ _ | refine blk_drew ?_ | refine blk_alloc ?_ _)); exact BK303.out) hb)
             have n3_ := Aside0.mk (blk_below (g := gb304) (o := .cells #[.int .i64 a2_0, .int .i64 a2_1, .int .i64 a2_2] 58 (0, 0)) (by (with_reducible repeat (first | refine blk_drewN ?_ _ | refine blk_drew ?_ | refine blk_alloc ?_ _)); exact BK304.out) hb)
             have n4_ := Aside0.mk (blk_below (g := gb315) (o := .cells #[.slice Ao26 t307.length co26, .int .i64 t310] 46 (0, 0)) (by (with_reducible repeat (first | refine blk_drewN ?_ _ | refine blk_drew ?_ | refine blk_alloc ?_ _)); exact BK315.out) hb)
             have n5_ := Aside0.mk (blk_below (g := gb316) (o := .cells #[.slice Ao31 t311.length co31, .int .i64 t314] 46 (0, 0)) (by (with_reducible repeat (first | refine blk_drewN ?_ _ | refine blk_drew ?_ | refine blk_alloc ?_ _)); exact BK316.out) hb)
             have n6_ := Aside0.mk (blk_below (g := gb319) (o := .cells #[.int .u64 a1_0, .slice A1_1 l1_1.length c1_1] 50 (0, 0)) (by (with_reducible repeat (first | refine blk_drewN ?_ _ | refine blk_drew ?_ | refine blk_alloc ?_ _)); exact BK319.out) hb)
             have n7_ := Aside0.mk (below_step (by repeat (first | (with_reducible first | exact HB.out | apply below_alloc | apply pw_below_drewN | apply below_drew1 | refine below_set ?_ GE303.out | refine below_set ?_ GE304.out | refine below_set ?_ GE315.out | refine below_set ?_ GE316.out | refine below_set ?_ GE319.out) | exact HB.out)) hb)
             clear HO_316000
             clear HO_317000
             clear BK303
             clear BK304
             clear BK315
             clear BK316
             clear BK319
             clear HB
             have HO_316000 := n0_
             have HO_317000 := n1_
             have BK303 := n2_
             have BK304 := n3_
             have BK315 := n4_
             have BK316 := n5_
             have BK319 := n6_
             have HB := n7_
             clear n0_ n1_ n2_ n3_ n4_ n5_ n6_ n7_
             (try clear hb)
             (try clear hb2)
             (try clear hk)
             (try clear hi)
             refine hK.out _ _ ⟨(blk_cell BK319.out 0).trans rfl, (blk_cell BK319.out 1).trans rfl⟩ (fun hHeld => ?_)
             clear hK K
             refine norm_ (a' := ?_) ?_ ?_
             rotate_left
             ·
              show Act.put _ (some 98) _ = _
              simp only [Act.put, setIfInBounds_toArray, set_cons_zero, set_cons_succ, i64_w, i32_w]
              rfl
             refine pure_ (i := 10) (N := some 99) (v := ?_) (a' := ?_) (bl_14 30 2047) rfl rfl (any_of HT_.out (by kernel_rfl)) (fun _ _ _ h => h) (Or.inl ⟨by rfl, ?_⟩) ?_ ?_; rotate_left; (· intro w'; go_simp; with_reducible rfl); rotate_left; (· simp only [Act.put, setIfInBounds_toArray, set_cons_zero, set_cons_succ, i64_w, i32_w]; rfl)
             refine pure_ (i := 11) (N := some 100) (v := ?_) (a' := ?_) (bl_14 30 4095) rfl rfl (any_of HT_.out (by kernel_rfl)) (fun _ _ _ h => h) (Or.inl ⟨by rfl, ?_⟩) ?_ ?_; rotate_left; (· intro w'; go_simp; with_reducible rfl); rotate_left; (· simp only [Act.put, setIfInBounds_toArray, set_cons_zero, set_cons_succ, i64_w, i32_w]; rfl)
             refine pure_ (i := 12) (N := some 101) (v := undef) (a' := ?_) (bl_14 30 8191) rfl rfl (any_of HT_.out (by kernel_rfl)) (fun _ _ _ h => h) (Or.inr ⟨by rfl, rfl⟩) ?_ ?_; rotate_left; (· simp only [Act.put, setIfInBounds_toArray, set_cons_zero, set_cons_succ, i64_w, i32_w]; rfl)
             refine pure_ (i := 13) (N := some 102) (v := undef) (a' := ?_) (bl_14 30 16383) rfl rfl (any_of HT_.out (by kernel_rfl)) (fun _ _ _ h => h) (Or.inr ⟨by rfl, rfl⟩) ?_ ?_; rotate_left; (· simp only [Act.put, setIfInBounds_toArray, set_cons_zero, set_cons_succ, i64_w, i32_w]; rfl)
             refine pure_ (i := 14) (N := some 103) (v := undef) (a' := ?_) (bl_14 30 32767) rfl rfl (any_of HT_.out (by kernel_rfl)) (fun _ _ _ h => h) (Or.inr ⟨by rfl, rfl⟩) ?_ ?_; rotate_left; (· simp only [Act.put, setIfInBounds_toArray, set_cons_zero, set_cons_succ, i64_w, i32_w]; rfl)
             refine pure_ (i := 15) (N := some 104) (v := undef) (a' := ?_) (bl_14 30 65535) rfl rfl (any_of HT_.out (by kernel_rfl)) (fun _ _ _ h => h) (Or.inr ⟨by rfl, rfl⟩) ?_ ?_; rotate_left; (· simp only [Act.put, setIfInBounds_toArray, set_cons_zero, set_cons_succ, i64_w, i32_w]; rfl)
             refine pure_ (i := 16) (N := some 105) (v := undef) (a' := ?_) (bl_14 30 131071) rfl rfl (any_of HT_.out (by kernel_rfl)) (fun _ _ _ h => h) (Or.inr ⟨by rfl, rfl⟩) ?_ ?_; rotate_left; (· simp only [Act.put, setIfInBounds_toArray, set_cons_zero, set_cons_succ, i64_w, i32_w]; rfl)
             refine pure_ (i := 17) (N := some 106) (v := undef) (a' := ?_) (bl_14 30 262143) rfl rfl (any_of HT_.out (by kernel_rfl)) (fun _ _ _ h => h) (Or.inr ⟨by rfl, rfl⟩) ?_ ?_; rotate_left; (· simp only [Act.put, setIfInBounds_toArray, set_cons_zero, set_cons_succ, i64_w, i32_w]; rfl)
             refine pure_ (i := 18) (N := some 107) (v := undef) (a' := ?_) (bl_14 30 524287) rfl rfl (any_of HT_.out (by kernel_rfl)) (fun _ _ _ h => h) (Or.inr ⟨by rfl, rfl⟩) ?_ ?_; rotate_left; (· simp only [Act.put, setIfInBounds_toArray, set_cons_zero, set_cons_succ, i64_w, i32_w]; rfl)
             refine pure_ (i := 19) (N := some 108) (v := undef) (a' := ?_) (bl_14 30 1048575) rfl rfl (any_of HT_.out (by kernel_rfl)) (fun _ _ _ h => h) (Or.inr ⟨by rfl, rfl⟩) ?_ ?_; rotate_left; (· simp only [Act.put, setIfInBounds_toArray, set_cons_zero, set_cons_succ, i64_w, i32_w]; rfl)
             refine pure_ (i := 20) (N := some 109) (v := undef) (a' := ?_) (bl_14 30 2097151) rfl rfl (any_of HT_.out (by kernel_rfl)) (fun _ _ _ h => h) (Or.inr ⟨by rfl, rfl⟩) ?_ ?_; rotate_left; (· simp only [Act.put, setIfInBounds_toArray, set_cons_zero, set_cons_succ, i64_w, i32_w]; rfl)
             refine pure_ (i := 21) (N := some 110) (v := undef) (a' := ?_) (bl_14 30 4194303) rfl rfl (any_of HT_.out (by kernel_rfl)) (fun _ _ _ h => h) (Or.inr ⟨by rfl, rfl⟩) ?_ ?_; rotate_left; (· simp only [Act.put, setIfInBounds_toArray, set_cons_zero, set_cons_succ, i64_w, i32_w]; rfl)
             refine pure_ (i := 22) (N := some 111) (v := undef) (a' := ?_) (bl_14 30 8388607) rfl rfl (any_of HT_.out (by kernel_rfl)) (fun _ _ _ h => h) (Or.inr ⟨by rfl, rfl⟩) ?_ ?_; rotate_left; (· simp only [Act.put, setIfInBounds_toArray, set_cons_zero, set_cons_succ, i64_w, i32_w]; rfl)
             refine pure_ (i := 23) (N := some 112) (v := undef) (a' := ?_) (bl_14 30 16777215) rfl rfl (any_of HT_.out (by kernel_rfl)) (fun _ _ _ h => h) (Or.inr ⟨by rfl, rfl⟩) ?_ ?_; rotate_left; (· simp only [Act.put, setIfInBounds_toArray, set_cons_zero, set_cons_succ, i64_w, i32_w]; rfl)
             refine pure_ (i := 24) (N := some 113) (v := undef) (a' := ?_) (bl_14 30 33554431) rfl rfl (any_of HT_.out (by kernel_rfl)) (fun _ _ _ h => h) (Or.inr ⟨by rfl, rfl⟩) ?_ ?_; rotate_left; (· simp only [Act.put, setIfInBounds_toArray, set_cons_zero, set_cons_succ, i64_w, i32_w]; rfl)
             refine pure_ (i := 25) (N := some 114) (v := undef) (a' := ?_) (bl_14 30 67108863) rfl rfl (any_of HT_.out (by kernel_rfl)) (fun _ _ _ h => h) (Or.inr ⟨by rfl, rfl⟩) ?_ ?_; rotate_left; (· simp only [Act.put, setIfInBounds_toArray, set_cons_zero, set_cons_succ, i64_w, i32_w]; rfl)
             refine pure_ (i := 26) (N := some 115) (v := undef) (a' := ?_) (bl_14 30 134217727) rfl rfl (any_of HT_.out (by kernel_rfl)) (fun _ _ _ h => h) (Or.inr ⟨by rfl, rfl⟩) ?_ ?_; rotate_left; (· simp only [Act.put, setIfInBounds_toArray, set_cons_zero, set_cons_succ, i64_w, i32_w]; rfl)
             refine pure_ (i := 27) (N := some 116) (v := undef) (a' := ?_) (bl_14 30 268435455) rfl rfl (any_of HT_.out (by kernel_rfl)) (fun _ _ _ h => h) (Or.inr ⟨by rfl, rfl⟩) ?_ ?_; rotate_left; (· simp only [Act.put, setIfInBounds_toArray, set_cons_zero, set_cons_succ, i64_w, i32_w]; rfl)
             refine pure_ (i := 28) (N := some 117) (v := undef) (a' := ?_) (bl_14 30 536870911) rfl rfl (any_of HT_.out (by kernel_rfl)) (fun _ _ _ h => h) (Or.inr ⟨by rfl, rfl⟩) ?_ ?_; rotate_left; (· simp only [Act.put, setIfInBounds_toArray, set_cons_zero, set_cons_succ, i64_w, i32_w]; rfl)
             refine pure_ (i := 29) (N := some 118) (v := ?_) (a' := ?_) (bl_14 30 1073741823) rfl rfl (any_of HT_.out (by kernel_rfl)) (fun _ _ _ h => h) (Or.inl ⟨by rfl, ?_⟩) ?_ ?_; rotate_left; (· intro w'; go_simp; with_reducible rfl); rotate_left; (· simp only [Act.put, setIfInBounds_toArray, set_cons_zero, set_cons_succ, i64_w, i32_w]; rfl)
             refine done_ (done_of HT_.out (by kernel_rfl)) ?_
             try go_wp2
             go_meet
             case rel => exact ⟨_, (true), (by first | rfl | (simp; done) | (simp [*]; done)), H', ⟨by have := HJ5.out; have := HJ19.out; have := HJ56.out; first | omega | exact Nat.le_refl _⟩, ⟨by (with_reducible repeat (first | apply Kd.R_alloc | apply Kd.R_drewN | apply Kd.R_drew)); exact HO_316000.out⟩, ⟨by (with_reducible repeat (first | apply Kd.R_alloc | apply Kd.R_drewN | apply Kd.R_drew)); exact HO_317000.out⟩, ⟨by (with_reducible repeat (first | refine blk_drewN ?_ _ | refine blk_drew ?_ | refine blk_alloc ?_ _)); exact BK303.out⟩, ⟨by (with_reducible repeat (first | refine blk_drewN ?_ _ | refine blk_drew ?_ | refine blk_alloc ?_ _)); exact BK304.out⟩, ⟨by (with_reducible repeat (first | refine blk_drewN ?_ _ | refine blk_drew ?_ | refine blk_alloc ?_ _)); exact BK315.out⟩, ⟨by (with_reducible repeat (first | refine blk_drewN ?_ _ | refine blk_drew ?_ | refine blk_alloc ?_ _)); exact BK316.out⟩, ⟨by (with_reducible repeat (first | refine blk_drewN ?_ _ | refine blk_drew ?_ | refine blk_alloc ?_ _)); exact BK319.out⟩, ⟨by repeat (first | (with_reducible first | exact HB.out | apply below_alloc | apply pw_below_drewN | apply below_drew1 | refine below_set ?_ GE303.out | refine below_set ?_ GE304.out | refine below_set ?_ GE315.out | refine below_set ?_ GE316.out | refine below_set ?_ GE319.out) | exact HB.out)⟩⟩
           case rest =>
            clear HC142
            try clear c1
            try clear p2
            try clear c3
            try clear c14
            try clear c35
            try clear c39
            try clear c145
            try clear c145b0
            try clear c145b1
            obtain ⟨kq, x118_141, rfl, HA, HJ141, HO_316000, HO_317000, BK303, BK304, BK315, BK316, BK319, HB⟩ := hcut
            cases kq with
            | zero => exact absurd HA.out (by simp [parolelaw04_MerkleMatchesReference.j4])
            | succ kj141 =>
             have H := HA.out
             clear HA
             simp only [parolelaw04_MerkleMatchesReference.j4] at H
             by_cases c156 : x118_141 = true
             ·
              subst c156
              have H1 : (none) = some r := by rw [if_pos rfl] at H; exact H
              clear H
              have H := H1
              clear H1
              exact absurd H (by simp)
             ·
              replace c156 := Bool.eq_false_iff.mpr c156
              subst c156
              have H1 : ((merkle_Collide.f kj141 a2_0 a2_1 a1_0 l1_1 a1_2 l1_3).bind fun bt341 => ((paroleref04_Collide.f kj141 a2_0 a2_1 a1_0 l1_1 a1_2 l1_3).bind fun bt347 => (if bt341.1 = bt347.1 then (if bt341.2.1 = bt347.2.1 then (if bt341.2.2.1 = bt347.2.2.1 then (if bt341.2.2.2.1 = bt347.2.2.2.1 then (if (bt341.2.2.2.2 == bt347.2.2.2.2) = true then (some true) else (none)) else (none)) else (none)) else (none)) else (none)))) = some r := by rw [if_neg (show ¬ (false = true) by decide)] at H; exact H
              clear H
              have H := H1
              clear H1
              replace H := Option.bind_eq_some_iff.mp H
              obtain ⟨⟨t341, t342, t343, t344, t345⟩, A1570, H⟩ := H
              replace H : ((paroleref04_Collide.f kj141 a2_0 a2_1 a1_0 l1_1 a1_2 l1_3).bind fun bt347 => (if t341 = bt347.1 then (if t342 = bt347.2.1 then (if t343 = bt347.2.2.1 then (if t344 = bt347.2.2.2.1 then (if (t345 == bt347.2.2.2.2) = true then (some true) else (none)) else (none)) else (none)) else (none)) else (none))) = some r := H
              have A157 := Aside0.mk A1570
              clear A1570
              replace H := Option.bind_eq_some_iff.mp H
              obtain ⟨⟨t347, t348, t349, t350, t351⟩, A1580, H⟩ := H
              replace H : (if t341 = t347 then (if t342 = t348 then (if t343 = t349 then (if t344 = t350 then (if (t345 == t351) = true then (some true) else (none)) else (none)) else (none)) else (none)) else (none)) = some r := H
              have A158 := Aside0.mk A1580
              clear A1580
              by_cases c159 : t341 = t347
              ·
               rw [if_pos c159] at H
               have c159b0 : (t341 == t347) = true := beq_iff_eq.mpr c159
               have c159b1 : (t341 != t347) = false := bne_eq_false_iff_eq.mpr c159
               clear c159
               by_cases c160 : t342 = t348
               ·
                rw [if_pos c160] at H
                have c160b0 : (t342 == t348) = true := beq_iff_eq.mpr c160
                have c160b1 : (t342 != t348) = false := bne_eq_false_iff_eq.mpr c160
                clear c160
                by_cases c161 : t343 = t349
                ·
                 rw [if_pos c161] at H
                 have c161b0 : (t343 == t349) = true := beq_iff_eq.mpr c161
                 have c161b1 : (t343 != t349) = false := bne_eq_false_iff_eq.mpr c161
                 clear c161
                 by_cases c162 : t344 = t350
                 ·
                  rw [if_pos c162] at H
                  have c162b0 : (t344 == t350) = true := beq_iff_eq.mpr c162
                  have c162b1 : (t344 != t350) = false := bne_eq_false_iff_eq.mpr c162
                  clear c162
                  by_cases c163 : (t345 == t351) = true
                  ·
                   rw [if_pos c163] at H
                   have c163b0 : (t345 == t351) = true := c163
                   (try (have c163b1 : decide (t345 = t351) = true := by simpa using c163))
                   (try (have c163b2 : (t345 == t351) = true := by simpa using c163))
                   clear c163
                   obtain rfl := Option.some.inj H
                   have hnb164 := NB319_303.out
                   have hnc164 := NB303_319.out
                   have hnb165 := NB319_304.out
                   have hnc165 := NB304_319.out
                   have hnb166 := NB319_315.out
                   have hnc166 := NB315_319.out
                   have hnb167 := NB319_316.out
                   have hnc167 := NB316_319.out
                   have hcz168_0 : wc.cell? ⟨gb319, 0, none⟩ = some (.int .u64 a1_0) := (blk_cell BK319.out 0).trans rfl
                   have hcz168_1 : wc.cell? ⟨gb319, 1, none⟩ = some (.slice A1_1 l1_1.length c1_1) := (blk_cell BK319.out 1).trans rfl
                   have hfz168_0 := blk_frozen BK319.out 0
                   have hfz168_1 := blk_frozen BK319.out 1
                   have hnb169 := NB303_304.out
                   have hnc169 := NB304_303.out
                   have hnb170 := NB303_315.out
                   have hnc170 := NB315_303.out
                   have hnb171 := NB303_316.out
                   have hnc171 := NB316_303.out
                   have hcz172_0 : wc.cell? ⟨gb303, 0, none⟩ = some (.int .u64 a1_0) := (blk_cell BK303.out 0).trans rfl
                   have hcz172_1 : wc.cell? ⟨gb303, 1, none⟩ = some (.slice A1_1 l1_1.length c1_1) := (blk_cell BK303.out 1).trans rfl
                   have hcz172_2 : wc.cell? ⟨gb303, 2, none⟩ = some (.int .u64 a1_2) := (blk_cell BK303.out 2).trans rfl
                   have hcz172_3 : wc.cell? ⟨gb303, 3, none⟩ = some (.slice A1_3 l1_3.length c1_3) := (blk_cell BK303.out 3).trans rfl
                   have hfz172_0 := blk_frozen BK303.out 0
                   have hfz172_1 := blk_frozen BK303.out 1
                   have hfz172_2 := blk_frozen BK303.out 2
                   have hfz172_3 := blk_frozen BK303.out 3
                   go_wp2_with (first | ((with_reducible refine gate_callee (f := 40) rfl ?_); refine goesL_ (some 125) rfl rfl Try.func40 (by kernel_rfl) rfl #[.int .i64 a2_0, .int .i64 a2_1, .agg #[.int .u64 a1_0, .slice A1_1 l1_1.length c1_1], .agg #[.int .u64 a1_2, .slice A1_3 l1_3.length c1_3]] rfl (by (try simp only [map_toArray, map_cons, map_nil]); first | done | rfl) ?_; (with_reducible refine (merkle_Collide.calls kj141 a2_0 a2_1 a1_0 _ _ l1_1 a1_2 _ _ l1_3 t341 t342 t343 t344 t345 _ ?side1 ?side2 ?side3 ?side4 A157.out).mono ?_); (case side1 => repeat (first | exact (Kd.C_below HR1_1.out HB.out) | (with_reducible refine Kd.C_alloc ?_ _) | (with_reducible refine Kd.C_drewN ?_ _) | (with_reducible refine Kd.C_drew ?_))); (case side2 => exact HC1_1.out); (case side3 => repeat (first | exact (Kd.C_below HR1_3.out HB.out) | (with_reducible refine Kd.C_alloc ?_ _) | (with_reducible refine Kd.C_drewN ?_ _) | (with_reducible refine Kd.C_drew ?_))); (case side4 => exact HC1_3.out); rintro e w173 ⟨rfl, hb⟩; refine ⟨_, rfl, ?_⟩; have n0_ := Aside0.mk (Kd.R_below (by (with_reducible repeat (first | apply Kd.R_alloc | apply Kd.R_drewN | apply Kd.R_drew)); exact HO_316000.out) hb); have n1_ := Aside0.mk (Kd.R_below (by (with_reducible repeat (first | apply Kd.R_alloc | apply Kd.R_drewN | apply Kd.R_drew)); exact HO_317000.out) hb); have n2_ := Aside0.mk (blk_below (g := gb303) (o := .cells #[.int .u64 a1_0, .slice A1_1 l1_1.length c1_1, .int .u64 a1_2, .slice A1_3 l1_3.length c1_3] 57 (0, 0)) (by (with_reducible repeat (first | refine blk_drewN ?_ _ | refine blk_drew ?_ | refine blk_alloc ?_ _)); exact BK303.out) hb); have n3_ := Aside0.mk (blk_below (g := gb304) (o := .cells #[.int .i64 a2_0, .int .i64 a2_1, .int .i64 a2_2] 58 (0, 0)) (by (with_reducible repeat (first | refine blk_drewN ?_ _ | refine blk_drew ?_ | refine blk_alloc ?_ _)); exact BK304.out) hb); have n4_ := Aside0.mk (blk_below (g := gb315) (o := .cells #[.slice Ao26 t307.length co26, .int .i64 t310] 46 (0, 0)) (by (with_reducible repeat (first | refine blk_drewN ?_ _ | refine blk_drew ?_ | refine blk_alloc ?_ _)); exact BK315.out) hb); have n5_ := Aside0.mk (blk_below (g := gb316) (o := .cells #[.slice Ao31 t311.length co31, .int .i64 t314] 46 (0, 0)) (by (with_reducible repeat (first | refine blk_drewN ?_ _ | refine blk_drew ?_ | refine blk_alloc ?_ _)); exact BK316.out) hb); have n6_ := Aside0.mk (blk_below (g := gb319) (o := .cells #[.int .u64 a1_0, .slice A1_1 l1_1.length c1_1] 50 (0, 0)) (by (with_reducible repeat (first | refine blk_drewN ?_ _ | refine blk_drew ?_ | refine blk_alloc ?_ _)); exact BK319.out) hb); have n7_ := Aside0.mk (below_step (by repeat (first | (with_reducible first | exact HB.out | apply below_alloc | apply pw_below_drewN | apply below_drew1 | refine below_set ?_ GE303.out | refine below_set ?_ GE304.out | refine below_set ?_ GE315.out | refine below_set ?_ GE316.out | refine below_set ?_ GE319.out) | exact HB.out)) hb); clear HO_316000; clear HO_317000; clear BK303; clear BK304; clear BK315; clear BK316; clear BK319; clear HB; have HO_316000 := n0_; have HO_317000 := n1_; have BK303 := n2_; have BK304 := n3_; have BK315 := n4_; have BK316 := n5_; have BK319 := n6_; have HB := n7_; clear n0_ n1_ n2_ n3_ n4_ n5_ n6_ n7_; (try clear hb); (try clear hb2); (try clear hk); (try clear hi)) | ((with_reducible refine gate_dst (N := 14) rfl ?_); (try (refine gate_guard (by rfl) ?_; dsimp only)); refine box_event ?hg (N := 14) ?hd (cs := #[.int .u64 0, .int .u64 0, .int .u64 0, .int .u64 0]) (t := 60) ?hr ?_; (case hd => rfl); (case hg => rfl); (case hr => first | (go_simp; done) | (go_simp; rfl)); intro gb346 hg w174 hbox hb; have n0_ := Aside0.mk (Kd.R_below (by (with_reducible repeat (first | apply Kd.R_alloc | apply Kd.R_drewN | apply Kd.R_drew)); exact HO_316000.out) hb); have n1_ := Aside0.mk (Kd.R_below (by (with_reducible repeat (first | apply Kd.R_alloc | apply Kd.R_drewN | apply Kd.R_drew)); exact HO_317000.out) hb); have n2_ := Aside0.mk (blk_below (g := gb303) (o := .cells #[.int .u64 a1_0, .slice A1_1 l1_1.length c1_1, .int .u64 a1_2, .slice A1_3 l1_3.length c1_3] 57 (0, 0)) (by (with_reducible repeat (first | refine blk_drewN ?_ _ | refine blk_drew ?_ | refine blk_alloc ?_ _)); exact BK303.out) hb); have n3_ := Aside0.mk (blk_below (g := gb304) (o := .cells #[.int .i64 a2_0, .int .i64 a2_1, .int .i64 a2_2] 58 (0, 0)) (by (with_reducible repeat (first | refine blk_drewN ?_ _ | refine blk_drew ?_ | refine blk_alloc ?_ _)); exact BK304.out) hb); have n4_ := Aside0.mk (blk_below (g := gb315) (o := .cells #[.slice Ao26 t307.length co26, .int .i64 t310] 46 (0, 0)) (by (with_reducible repeat (first | refine blk_drewN ?_ _ | refine blk_drew ?_ | refine blk_alloc ?_ _)); exact BK315.out) hb); have n5_ := Aside0.mk (blk_below (g := gb316) (o := .cells #[.slice Ao31 t311.length co31, .int .i64 t314] 46 (0, 0)) (by (with_reducible repeat (first | refine blk_drewN ?_ _ | refine blk_drew ?_ | refine blk_alloc ?_ _)); exact BK316.out) hb); have n6_ := Aside0.mk (blk_below (g := gb319) (o := .cells #[.int .u64 a1_0, .slice A1_1 l1_1.length c1_1] 50 (0, 0)) (by (with_reducible repeat (first | refine blk_drewN ?_ _ | refine blk_drew ?_ | refine blk_alloc ?_ _)); exact BK319.out) hb); have n7_ := Aside0.mk (below_step (by repeat (first | (with_reducible first | exact HB.out | apply below_alloc | apply pw_below_drewN | apply below_drew1 | refine below_set ?_ GE303.out | refine below_set ?_ GE304.out | refine below_set ?_ GE315.out | refine below_set ?_ GE316.out | refine below_set ?_ GE319.out) | exact HB.out)) hb); have n8_ := Aside0.mk (hbox); have n9_ := Aside0.mk ((by rw [hg]; exact (below_size (by repeat (first | (with_reducible first | exact HB.out | apply below_alloc | apply pw_below_drewN | apply below_drew1 | refine below_set ?_ GE303.out | refine below_set ?_ GE304.out | refine below_set ?_ GE315.out | refine below_set ?_ GE316.out | refine below_set ?_ GE319.out) | exact HB.out))) : w.heap.size ≤ gb346)); have n10_ := Aside0.mk ((by rw [hg]; exact (below_size (by repeat (first | (with_reducible first | exact HB.out | apply below_alloc | apply pw_below_drewN | apply below_drew1 | refine below_set ?_ GE303.out | refine below_set ?_ GE304.out | refine below_set ?_ GE315.out | refine below_set ?_ GE316.out | refine below_set ?_ GE319.out) | exact HB.out))) : w.heap.size ≤ gb346)); have n11_ := Aside0.mk ((by rw [hg]; exact Nat.ne_of_lt (blk_lt (g := gb303) (o := .cells #[.int .u64 a1_0, .slice A1_1 l1_1.length c1_1, .int .u64 a1_2, .slice A1_3 l1_3.length c1_3] 57 (0, 0)) (by (with_reducible repeat (first | refine blk_drewN ?_ _ | refine blk_drew ?_ | refine blk_alloc ?_ _)); exact BK303.out)) : gb303 ≠ gb346)); have n12_ := Aside0.mk ((by rw [hg]; exact Nat.ne_of_gt (blk_lt (g := gb303) (o := .cells #[.int .u64 a1_0, .slice A1_1 l1_1.length c1_1, .int .u64 a1_2, .slice A1_3 l1_3.length c1_3] 57 (0, 0)) (by (with_reducible repeat (first | refine blk_drewN ?_ _ | refine blk_drew ?_ | refine blk_alloc ?_ _)); exact BK303.out)) : gb346 ≠ gb303)); have n13_ := Aside0.mk ((by rw [hg]; exact Nat.ne_of_lt (blk_lt (g := gb304) (o := .cells #[.int .i64 a2_0, .int .i64 a2_1, .int .i64 a2_2] 58 (0, 0)) (by (with_reducible repeat (first | refine blk_drewN ?_ _ | refine blk_drew ?_ | refine blk_alloc ?_ _)); exact BK304.out)) : gb304 ≠ gb346)); have n14_ := Aside0.mk ((by rw [hg]; exact Nat.ne_of_gt (blk_lt (g := gb304) (o := .cells #[.int .i64 a2_0, .int .i64 a2_1, .int .i64 a2_2] 58 (0, 0)) (by (with_reducible repeat (first | refine blk_drewN ?_ _ | refine blk_drew ?_ | refine blk_alloc ?_ _)); exact BK304.out)) : gb346 ≠ gb304)); have n15_ := Aside0.mk ((by rw [hg]; exact Nat.ne_of_lt (blk_lt (g := gb315) (o := .cells #[.slice Ao26 t307.length co26, .int .i64 t310] 46 (0, 0)) (by (with_reducible repeat (first | refine blk_drewN ?_ _ | refine blk_drew ?_ | refine blk_alloc ?_ _)); exact BK315.out)) : gb315 ≠ gb346)); have n16_ := Aside0.mk ((by rw [hg]; exact Nat.ne_of_gt (blk_lt (g := gb315) (o := .cells #[.slice Ao26 t307.length co26, .int .i64 t310] 46 (0, 0)) (by (with_reducible repeat (first | refine blk_drewN ?_ _ | refine blk_drew ?_ | refine blk_alloc ?_ _)); exact BK315.out)) : gb346 ≠ gb315)); have n17_ := Aside0.mk ((by rw [hg]; exact Nat.ne_of_lt (blk_lt (g := gb316) (o := .cells #[.slice Ao31 t311.length co31, .int .i64 t314] 46 (0, 0)) (by (with_reducible repeat (first | refine blk_drewN ?_ _ | refine blk_drew ?_ | refine blk_alloc ?_ _)); exact BK316.out)) : gb316 ≠ gb346)); have n18_ := Aside0.mk ((by rw [hg]; exact Nat.ne_of_gt (blk_lt (g := gb316) (o := .cells #[.slice Ao31 t311.length co31, .int .i64 t314] 46 (0, 0)) (by (with_reducible repeat (first | refine blk_drewN ?_ _ | refine blk_drew ?_ | refine blk_alloc ?_ _)); exact BK316.out)) : gb346 ≠ gb316)); have n19_ := Aside0.mk ((by rw [hg]; exact Nat.ne_of_lt (blk_lt (g := gb319) (o := .cells #[.int .u64 a1_0, .slice A1_1 l1_1.length c1_1] 50 (0, 0)) (by (with_reducible repeat (first | refine blk_drewN ?_ _ | refine blk_drew ?_ | refine blk_alloc ?_ _)); exact BK319.out)) : gb319 ≠ gb346)); have n20_ := Aside0.mk ((by rw [hg]; exact Nat.ne_of_gt (blk_lt (g := gb319) (o := .cells #[.int .u64 a1_0, .slice A1_1 l1_1.length c1_1] 50 (0, 0)) (by (with_reducible repeat (first | refine blk_drewN ?_ _ | refine blk_drew ?_ | refine blk_alloc ?_ _)); exact BK319.out)) : gb346 ≠ gb319)); clear HO_316000; clear HO_317000; clear BK303; clear BK304; clear BK315; clear BK316; clear BK319; clear HB; have HO_316000 := n0_; have HO_317000 := n1_; have BK303 := n2_; have BK304 := n3_; have BK315 := n4_; have BK316 := n5_; have BK319 := n6_; have HB := n7_; have BK346 := n8_; have GW346 := n9_; have GE346 := n10_; have NB303_346 := n11_; have NB346_303 := n12_; have NB304_346 := n13_; have NB346_304 := n14_; have NB315_346 := n15_; have NB346_315 := n16_; have NB316_346 := n17_; have NB346_316 := n18_; have NB319_346 := n19_; have NB346_319 := n20_; clear n0_ n1_ n2_ n3_ n4_ n5_ n6_ n7_ n8_ n9_ n10_ n11_ n12_ n13_ n14_ n15_ n16_ n17_ n18_ n19_ n20_; clear hb hbox hg; have hnb175 := NB346_303.out; have hnc175 := NB303_346.out; have hnb176 := NB346_304.out; have hnc176 := NB304_346.out; have hnb177 := NB346_315.out; have hnc177 := NB315_346.out; have hnb178 := NB346_316.out; have hnc178 := NB316_346.out; have hnb179 := NB346_319.out; have hnc179 := NB319_346.out; have hcz180_0 : w174.cell? ⟨gb346, 0, none⟩ = some (.int .u64 0) := (blk_cell BK346.out 0).trans rfl; have hcz180_1 : w174.cell? ⟨gb346, 1, none⟩ = some (.int .u64 0) := (blk_cell BK346.out 1).trans rfl; have hcz180_2 : w174.cell? ⟨gb346, 2, none⟩ = some (.int .u64 0) := (blk_cell BK346.out 2).trans rfl; have hcz180_3 : w174.cell? ⟨gb346, 3, none⟩ = some (.int .u64 0) := (blk_cell BK346.out 3).trans rfl; have hfz180_0 := blk_frozen BK346.out 0; have hfz180_1 := blk_frozen BK346.out 1; have hfz180_2 := blk_frozen BK346.out 2; have hfz180_3 := blk_frozen BK346.out 3; have hcz181_0 : w174.cell? ⟨gb319, 0, none⟩ = some (.int .u64 a1_0) := (blk_cell BK319.out 0).trans rfl; have hcz181_1 : w174.cell? ⟨gb319, 1, none⟩ = some (.slice A1_1 l1_1.length c1_1) := (blk_cell BK319.out 1).trans rfl; have hfz181_0 := blk_frozen BK319.out 0; have hfz181_1 := blk_frozen BK319.out 1; have hcz182_0 : w174.cell? ⟨gb303, 0, none⟩ = some (.int .u64 a1_0) := (blk_cell BK303.out 0).trans rfl; have hcz182_1 : w174.cell? ⟨gb303, 1, none⟩ = some (.slice A1_1 l1_1.length c1_1) := (blk_cell BK303.out 1).trans rfl; have hcz182_2 : w174.cell? ⟨gb303, 2, none⟩ = some (.int .u64 a1_2) := (blk_cell BK303.out 2).trans rfl; have hcz182_3 : w174.cell? ⟨gb303, 3, none⟩ = some (.slice A1_3 l1_3.length c1_3) := (blk_cell BK303.out 3).trans rfl; have hfz182_0 := blk_frozen BK303.out 0; have hfz182_1 := blk_frozen BK303.out 1; have hfz182_2 := blk_frozen BK303.out 2; have hfz182_3 := blk_frozen BK303.out 3) | ((with_reducible refine gate_callee (f := 41) rfl ?_); refine goesL_ (some 133) rfl rfl Try.func41 (by kernel_rfl) rfl #[.int .i64 a2_0, .int .i64 a2_1, .agg #[.int .u64 a1_0, .slice A1_1 l1_1.length c1_1], .agg #[.int .u64 a1_2, .slice A1_3 l1_3.length c1_3]] rfl (by (try simp only [map_toArray, map_cons, map_nil]); first | done | rfl) ?_; (with_reducible refine (paroleref04_Collide.calls kj141 a2_0 a2_1 a1_0 _ _ l1_1 a1_2 _ _ l1_3 t347 t348 t349 t350 t351 _ ?side1 ?side2 ?side3 ?side4 A158.out).mono ?_); (case side1 => exact Kd.C_below HR1_1.out (by repeat (first | (with_reducible first | exact HB.out | apply below_alloc | apply pw_below_drewN | apply below_drew1 | refine below_set ?_ GE303.out | refine below_set ?_ GE304.out | refine below_set ?_ GE315.out | refine below_set ?_ GE316.out | refine below_set ?_ GE319.out | refine below_set ?_ GE346.out) | exact HB.out))); (case side2 => exact HC1_1.out); (case side3 => exact Kd.C_below HR1_3.out (by repeat (first | (with_reducible first | exact HB.out | apply below_alloc | apply pw_below_drewN | apply below_drew1 | refine below_set ?_ GE303.out | refine below_set ?_ GE304.out | refine below_set ?_ GE315.out | refine below_set ?_ GE316.out | refine below_set ?_ GE319.out | refine below_set ?_ GE346.out) | exact HB.out))); (case side4 => exact HC1_3.out); rintro e w183 ⟨rfl, hb⟩; refine ⟨_, rfl, ?_⟩; have n0_ := Aside0.mk (Kd.R_below (by (with_reducible repeat (first | apply Kd.R_alloc | apply Kd.R_drewN | apply Kd.R_drew)); exact (Kd.R_mono (Kd.R_far (p := ⟨gb346, 3, none⟩) (Kd.R_far (p := ⟨gb346, 2, none⟩) (Kd.R_far (p := ⟨gb346, 1, none⟩) (Kd.R_far (p := ⟨gb346, 0, none⟩) (Kd.R_types HO_316000.out BK346.out (by decide)) (fun _ hk => by first | exact hk.2 | exact hk | exact ⟨hk.2, hk.1⟩ | simp_all) (.int .u64 t341)) (fun _ hk => by first | exact hk.2 | exact hk | exact ⟨hk.2, hk.1⟩ | simp_all) (.int .u64 t342)) (fun _ hk => by first | exact hk.2 | exact hk | exact ⟨hk.2, hk.1⟩ | simp_all) (.int .u64 t343)) (fun _ hk => by first | exact hk.2 | exact hk | exact ⟨hk.2, hk.1⟩ | simp_all) (.int .u64 t344)) (fun _ h_ => h_.1))) hb); have n1_ := Aside0.mk (Kd.R_below (by (with_reducible repeat (first | apply Kd.R_alloc | apply Kd.R_drewN | apply Kd.R_drew)); exact (Kd.R_mono (Kd.R_far (p := ⟨gb346, 3, none⟩) (Kd.R_far (p := ⟨gb346, 2, none⟩) (Kd.R_far (p := ⟨gb346, 1, none⟩) (Kd.R_far (p := ⟨gb346, 0, none⟩) (Kd.R_types HO_317000.out BK346.out (by decide)) (fun _ hk => by first | exact hk.2 | exact hk | exact ⟨hk.2, hk.1⟩ | simp_all) (.int .u64 t341)) (fun _ hk => by first | exact hk.2 | exact hk | exact ⟨hk.2, hk.1⟩ | simp_all) (.int .u64 t342)) (fun _ hk => by first | exact hk.2 | exact hk | exact ⟨hk.2, hk.1⟩ | simp_all) (.int .u64 t343)) (fun _ hk => by first | exact hk.2 | exact hk | exact ⟨hk.2, hk.1⟩ | simp_all) (.int .u64 t344)) (fun _ h_ => h_.1))) hb); have n2_ := Aside0.mk (blk_below (g := gb303) (o := .cells #[.int .u64 a1_0, .slice A1_1 l1_1.length c1_1, .int .u64 a1_2, .slice A1_3 l1_3.length c1_3] 57 (0, 0)) (by (with_reducible repeat (first | refine blk_drewN ?_ _ | refine blk_drew ?_ | refine blk_alloc ?_ _)); refine blk_far ?_ NB303_346.out _; (with_reducible repeat (first | refine blk_drewN ?_ _ | refine blk_drew ?_ | refine blk_alloc ?_ _)); refine blk_far ?_ NB303_346.out _; (with_reducible repeat (first | refine blk_drewN ?_ _ | refine blk_drew ?_ | refine blk_alloc ?_ _)); refine blk_far ?_ NB303_346.out _; (with_reducible repeat (first | refine blk_drewN ?_ _ | refine blk_drew ?_ | refine blk_alloc ?_ _)); refine blk_far ?_ NB303_346.out _; (with_reducible repeat (first | refine blk_drewN ?_ _ | refine blk_drew ?_ | refine blk_alloc ?_ _)); exact BK303.out) hb); have n3_ := Aside0.mk (blk_below (g := gb304) (o := .cells #[.int .i64 a2_0, .int .i64 a2_1, .int .i64 a2_2] 58 (0, 0)) (by (with_reducible repeat (first | refine blk_drewN ?_ _ | refine blk_drew ?_ | refine blk_alloc ?_ _)); refine blk_far ?_ NB304_346.out _; (with_reducible repeat (first | refine blk_drewN ?_ _ | refine blk_drew ?_ | refine blk_alloc ?_ _)); refine blk_far ?_ NB304_346.out _; (with_reducible repeat (first | refine blk_drewN ?_ _ | refine blk_drew ?_ | refine blk_alloc ?_ _)); refine blk_far ?_ NB304_346.out _; (with_reducible repeat (first | refine blk_drewN ?_ _ | refine blk_drew ?_ | refine blk_alloc ?_ _)); refine blk_far ?_ NB304_346.out _; (with_reducible repeat (first | refine blk_drewN ?_ _ | refine blk_drew ?_ | refine blk_alloc ?_ _)); exact BK304.out) hb); have n4_ := Aside0.mk (blk_below (g := gb315) (o := .cells #[.slice Ao26 t307.length co26, .int .i64 t310] 46 (0, 0)) (by (with_reducible repeat (first | refine blk_drewN ?_ _ | refine blk_drew ?_ | refine blk_alloc ?_ _)); refine blk_far ?_ NB315_346.out _; (with_reducible repeat (first | refine blk_drewN ?_ _ | refine blk_drew ?_ | refine blk_alloc ?_ _)); refine blk_far ?_ NB315_346.out _; (with_reducible repeat (first | refine blk_drewN ?_ _ | refine blk_drew ?_ | refine blk_alloc ?_ _)); refine blk_far ?_ NB315_346.out _; (with_reducible repeat (first | refine blk_drewN ?_ _ | refine blk_drew ?_ | refine blk_alloc ?_ _)); refine blk_far ?_ NB315_346.out _; (with_reducible repeat (first | refine blk_drewN ?_ _ | refine blk_drew ?_ | refine blk_alloc ?_ _)); exact BK315.out) hb); have n5_ := Aside0.mk (blk_below (g := gb316) (o := .cells #[.slice Ao31 t311.length co31, .int .i64 t314] 46 (0, 0)) (by (with_reducible repeat (first | refine blk_drewN ?_ _ | refine blk_drew ?_ | refine blk_alloc ?_ _)); refine blk_far ?_ NB316_346.out _; (with_reducible repeat (first | refine blk_drewN ?_ _ | refine blk_drew ?_ | refine blk_alloc ?_ _)); refine blk_far ?_ NB316_346.out _; (with_reducible repeat (first | refine blk_drewN ?_ _ | refine blk_drew ?_ | refine blk_alloc ?_ _)); refine blk_far ?_ NB316_346.out _; (with_reducible repeat (first | refine blk_drewN ?_ _ | refine blk_drew ?_ | refine blk_alloc ?_ _)); refine blk_far ?_ NB316_346.out _; (with_reducible repeat (first | refine blk_drewN ?_ _ | refine blk_drew ?_ | refine blk_alloc ?_ _)); exact BK316.out) hb); have n6_ := Aside0.mk (blk_below (g := gb319) (o := .cells #[.int .u64 a1_0, .slice A1_1 l1_1.length c1_1] 50 (0, 0)) (by (with_reducible repeat (first | refine blk_drewN ?_ _ | refine blk_drew ?_ | refine blk_alloc ?_ _)); refine blk_far ?_ NB319_346.out _; (with_reducible repeat (first | refine blk_drewN ?_ _ | refine blk_drew ?_ | refine blk_alloc ?_ _)); refine blk_far ?_ NB319_346.out _; (with_reducible repeat (first | refine blk_drewN ?_ _ | refine blk_drew ?_ | refine blk_alloc ?_ _)); refine blk_far ?_ NB319_346.out _; (with_reducible repeat (first | refine blk_drewN ?_ _ | refine blk_drew ?_ | refine blk_alloc ?_ _)); refine blk_far ?_ NB319_346.out _; (with_reducible repeat (first | refine blk_drewN ?_ _ | refine blk_drew ?_ | refine blk_alloc ?_ _)); exact BK319.out) hb); have n7_ := Aside0.mk (blk_below (g := gb346) (o := .cells #[.int .u64 t341, .int .u64 t342, .int .u64 t343, .int .u64 t344] 60 (0, 0)) (by (with_reducible repeat (first | refine blk_drewN ?_ _ | refine blk_drew ?_ | refine blk_alloc ?_ _)); refine blk_put (cs := #[.int .u64 t341, .int .u64 t342, .int .u64 t343, .int .u64 0]) ?_ 3 _ rfl; (with_reducible repeat (first | refine blk_drewN ?_ _ | refine blk_drew ?_ | refine blk_alloc ?_ _)); refine blk_put (cs := #[.int .u64 t341, .int .u64 t342, .int .u64 0, .int .u64 0]) ?_ 2 _ rfl; (with_reducible repeat (first | refine blk_drewN ?_ _ | refine blk_drew ?_ | refine blk_alloc ?_ _)); refine blk_put (cs := #[.int .u64 t341, .int .u64 0, .int .u64 0, .int .u64 0]) ?_ 1 _ rfl; (with_reducible repeat (first | refine blk_drewN ?_ _ | refine blk_drew ?_ | refine blk_alloc ?_ _)); refine blk_put (cs := #[.int .u64 0, .int .u64 0, .int .u64 0, .int .u64 0]) ?_ 0 _ rfl; (with_reducible repeat (first | refine blk_drewN ?_ _ | refine blk_drew ?_ | refine blk_alloc ?_ _)); exact BK346.out) hb); have n8_ := Aside0.mk (below_step (by repeat (first | (with_reducible first | exact HB.out | apply below_alloc | apply pw_below_drewN | apply below_drew1 | refine below_set ?_ GE303.out | refine below_set ?_ GE304.out | refine below_set ?_ GE315.out | refine below_set ?_ GE316.out | refine below_set ?_ GE319.out | refine below_set ?_ GE346.out) | exact HB.out)) hb); clear HO_316000; clear HO_317000; clear BK303; clear BK304; clear BK315; clear BK316; clear BK319; clear BK346; clear HB; have HO_316000 := n0_; have HO_317000 := n1_; have BK303 := n2_; have BK304 := n3_; have BK315 := n4_; have BK316 := n5_; have BK319 := n6_; have BK346 := n7_; have HB := n8_; clear n0_ n1_ n2_ n3_ n4_ n5_ n6_ n7_ n8_; (try clear hb); (try clear hb2); (try clear hk); (try clear hi)) | ((with_reducible refine gate_dst (N := 16) rfl ?_); (try (refine gate_guard (by rfl) ?_; dsimp only)); refine box_event ?hg (N := 16) ?hd (cs := #[.int .u64 0, .int .u64 0, .int .u64 0, .int .u64 0, .bool false]) (t := 64) ?hr ?_; (case hd => rfl); (case hg => rfl); (case hr => first | (go_simp; done) | (go_simp; rfl)); intro gb352 hg w184 hbox hb; have n0_ := Aside0.mk (Kd.R_below (by (with_reducible repeat (first | apply Kd.R_alloc | apply Kd.R_drewN | apply Kd.R_drew)); exact HO_316000.out) hb); have n1_ := Aside0.mk (Kd.R_below (by (with_reducible repeat (first | apply Kd.R_alloc | apply Kd.R_drewN | apply Kd.R_drew)); exact HO_317000.out) hb); have n2_ := Aside0.mk (blk_below (g := gb303) (o := .cells #[.int .u64 a1_0, .slice A1_1 l1_1.length c1_1, .int .u64 a1_2, .slice A1_3 l1_3.length c1_3] 57 (0, 0)) (by (with_reducible repeat (first | refine blk_drewN ?_ _ | refine blk_drew ?_ | refine blk_alloc ?_ _)); exact BK303.out) hb); have n3_ := Aside0.mk (blk_below (g := gb304) (o := .cells #[.int .i64 a2_0, .int .i64 a2_1, .int .i64 a2_2] 58 (0, 0)) (by (with_reducible repeat (first | refine blk_drewN ?_ _ | refine blk_drew ?_ | refine blk_alloc ?_ _)); exact BK304.out) hb); have n4_ := Aside0.mk (blk_below (g := gb315) (o := .cells #[.slice Ao26 t307.length co26, .int .i64 t310] 46 (0, 0)) (by (with_reducible repeat (first | refine blk_drewN ?_ _ | refine blk_drew ?_ | refine blk_alloc ?_ _)); exact BK315.out) hb); have n5_ := Aside0.mk (blk_below (g := gb316) (o := .cells #[.slice Ao31 t311.length co31, .int .i64 t314] 46 (0, 0)) (by (with_reducible repeat (first | refine blk_drewN ?_ _ | refine blk_drew ?_ | refine blk_alloc ?_ _)); exact BK316.out) hb); have n6_ := Aside0.mk (blk_below (g := gb319) (o := .cells #[.int .u64 a1_0, .slice A1_1 l1_1.length c1_1] 50 (0, 0)) (by (with_reducible repeat (first | refine blk_drewN ?_ _ | refine blk_drew ?_ | refine blk_alloc ?_ _)); exact BK319.out) hb); have n7_ := Aside0.mk (blk_below (g := gb346) (o := .cells #[.int .u64 t341, .int .u64 t342, .int .u64 t343, .int .u64 t344] 60 (0, 0)) (by (with_reducible repeat (first | refine blk_drewN ?_ _ | refine blk_drew ?_ | refine blk_alloc ?_ _)); exact BK346.out) hb); have n8_ := Aside0.mk (below_step (by repeat (first | (with_reducible first | exact HB.out | apply below_alloc | apply pw_below_drewN | apply below_drew1 | refine below_set ?_ GE303.out | refine below_set ?_ GE304.out | refine below_set ?_ GE315.out | refine below_set ?_ GE316.out | refine below_set ?_ GE319.out | refine below_set ?_ GE346.out) | exact HB.out)) hb); have n9_ := Aside0.mk (hbox); have n10_ := Aside0.mk ((by rw [hg]; exact (below_size (by repeat (first | (with_reducible first | exact HB.out | apply below_alloc | apply pw_below_drewN | apply below_drew1 | refine below_set ?_ GE303.out | refine below_set ?_ GE304.out | refine below_set ?_ GE315.out | refine below_set ?_ GE316.out | refine below_set ?_ GE319.out | refine below_set ?_ GE346.out) | exact HB.out))) : w.heap.size ≤ gb352)); have n11_ := Aside0.mk ((by rw [hg]; exact (below_size (by repeat (first | (with_reducible first | exact HB.out | apply below_alloc | apply pw_below_drewN | apply below_drew1 | refine below_set ?_ GE303.out | refine below_set ?_ GE304.out | refine below_set ?_ GE315.out | refine below_set ?_ GE316.out | refine below_set ?_ GE319.out | refine below_set ?_ GE346.out) | exact HB.out))) : w.heap.size ≤ gb352)); have n12_ := Aside0.mk ((by rw [hg]; exact Nat.ne_of_lt (blk_lt (g := gb303) (o := .cells #[.int .u64 a1_0, .slice A1_1 l1_1.length c1_1, .int .u64 a1_2, .slice A1_3 l1_3.length c1_3] 57 (0, 0)) (by (with_reducible repeat (first | refine blk_drewN ?_ _ | refine blk_drew ?_ | refine blk_alloc ?_ _)); exact BK303.out)) : gb303 ≠ gb352)); have n13_ := Aside0.mk ((by rw [hg]; exact Nat.ne_of_gt (blk_lt (g := gb303) (o := .cells #[.int .u64 a1_0, .slice A1_1 l1_1.length c1_1, .int .u64 a1_2, .slice A1_3 l1_3.length c1_3] 57 (0, 0)) (by (with_reducible repeat (first | refine blk_drewN ?_ _ | refine blk_drew ?_ | refine blk_alloc ?_ _)); exact BK303.out)) : gb352 ≠ gb303)); have n14_ := Aside0.mk ((by rw [hg]; exact Nat.ne_of_lt (blk_lt (g := gb304) (o := .cells #[.int .i64 a2_0, .int .i64 a2_1, .int .i64 a2_2] 58 (0, 0)) (by (with_reducible repeat (first | refine blk_drewN ?_ _ | refine blk_drew ?_ | refine blk_alloc ?_ _)); exact BK304.out)) : gb304 ≠ gb352)); have n15_ := Aside0.mk ((by rw [hg]; exact Nat.ne_of_gt (blk_lt (g := gb304) (o := .cells #[.int .i64 a2_0, .int .i64 a2_1, .int .i64 a2_2] 58 (0, 0)) (by (with_reducible repeat (first | refine blk_drewN ?_ _ | refine blk_drew ?_ | refine blk_alloc ?_ _)); exact BK304.out)) : gb352 ≠ gb304)); have n16_ := Aside0.mk ((by rw [hg]; exact Nat.ne_of_lt (blk_lt (g := gb315) (o := .cells #[.slice Ao26 t307.length co26, .int .i64 t310] 46 (0, 0)) (by (with_reducible repeat (first | refine blk_drewN ?_ _ | refine blk_drew ?_ | refine blk_alloc ?_ _)); exact BK315.out)) : gb315 ≠ gb352)); have n17_ := Aside0.mk ((by rw [hg]; exact Nat.ne_of_gt (blk_lt (g := gb315) (o := .cells #[.slice Ao26 t307.length co26, .int .i64 t310] 46 (0, 0)) (by (with_reducible repeat (first | refine blk_drewN ?_ _ | refine blk_drew ?_ | refine blk_alloc ?_ _)); exact BK315.out)) : gb352 ≠ gb315)); have n18_ := Aside0.mk ((by rw [hg]; exact Nat.ne_of_lt (blk_lt (g := gb316) (o := .cells #[.slice Ao31 t311.length co31, .int .i64 t314] 46 (0, 0)) (by (with_reducible repeat (first | refine blk_drewN ?_ _ | refine blk_drew ?_ | refine blk_alloc ?_ _)); exact BK316.out)) : gb316 ≠ gb352)); have n19_ := Aside0.mk ((by rw [hg]; exact Nat.ne_of_gt (blk_lt (g := gb316) (o := .cells #[.slice Ao31 t311.length co31, .int .i64 t314] 46 (0, 0)) (by (with_reducible repeat (first | refine blk_drewN ?_ _ | refine blk_drew ?_ | refine blk_alloc ?_ _)); exact BK316.out)) : gb352 ≠ gb316)); have n20_ := Aside0.mk ((by rw [hg]; exact Nat.ne_of_lt (blk_lt (g := gb319) (o := .cells #[.int .u64 a1_0, .slice A1_1 l1_1.length c1_1] 50 (0, 0)) (by (with_reducible repeat (first | refine blk_drewN ?_ _ | refine blk_drew ?_ | refine blk_alloc ?_ _)); exact BK319.out)) : gb319 ≠ gb352)); have n21_ := Aside0.mk ((by rw [hg]; exact Nat.ne_of_gt (blk_lt (g := gb319) (o := .cells #[.int .u64 a1_0, .slice A1_1 l1_1.length c1_1] 50 (0, 0)) (by (with_reducible repeat (first | refine blk_drewN ?_ _ | refine blk_drew ?_ | refine blk_alloc ?_ _)); exact BK319.out)) : gb352 ≠ gb319)); have n22_ := Aside0.mk ((by rw [hg]; exact Nat.ne_of_lt (blk_lt (g := gb346) (o := .cells #[.int .u64 t341, .int .u64 t342, .int .u64 t343, .int .u64 t344] 60 (0, 0)) (by (with_reducible repeat (first | refine blk_drewN ?_ _ | refine blk_drew ?_ | refine blk_alloc ?_ _)); exact BK346.out)) : gb346 ≠ gb352)); have n23_ := Aside0.mk ((by rw [hg]; exact Nat.ne_of_gt (blk_lt (g := gb346) (o := .cells #[.int .u64 t341, .int .u64 t342, .int .u64 t343, .int .u64 t344] 60 (0, 0)) (by (with_reducible repeat (first | refine blk_drewN ?_ _ | refine blk_drew ?_ | refine blk_alloc ?_ _)); exact BK346.out)) : gb352 ≠ gb346)); clear HO_316000; clear HO_317000; clear BK303; clear BK304; clear BK315; clear BK316; clear BK319; clear BK346; clear HB; have HO_316000 := n0_; have HO_317000 := n1_; have BK303 := n2_; have BK304 := n3_; have BK315 := n4_; have BK316 := n5_; have BK319 := n6_; have BK346 := n7_; have HB := n8_; have BK352 := n9_; have GW352 := n10_; have GE352 := n11_; have NB303_352 := n12_; have NB352_303 := n13_; have NB304_352 := n14_; have NB352_304 := n15_; have NB315_352 := n16_; have NB352_315 := n17_; have NB316_352 := n18_; have NB352_316 := n19_; have NB319_352 := n20_; have NB352_319 := n21_; have NB346_352 := n22_; have NB352_346 := n23_; clear n0_ n1_ n2_ n3_ n4_ n5_ n6_ n7_ n8_ n9_ n10_ n11_ n12_ n13_ n14_ n15_ n16_ n17_ n18_ n19_ n20_ n21_ n22_ n23_; clear hb hbox hg; have hnb185 := NB352_303.out; have hnc185 := NB303_352.out; have hnb186 := NB352_304.out; have hnc186 := NB304_352.out; have hnb187 := NB352_315.out; have hnc187 := NB315_352.out; have hnb188 := NB352_316.out; have hnc188 := NB316_352.out; have hnb189 := NB352_319.out; have hnc189 := NB319_352.out; have hnb190 := NB352_346.out; have hnc190 := NB346_352.out; have hcz191_0 : w184.cell? ⟨gb352, 0, none⟩ = some (.int .u64 0) := (blk_cell BK352.out 0).trans rfl; have hcz191_1 : w184.cell? ⟨gb352, 1, none⟩ = some (.int .u64 0) := (blk_cell BK352.out 1).trans rfl; have hcz191_2 : w184.cell? ⟨gb352, 2, none⟩ = some (.int .u64 0) := (blk_cell BK352.out 2).trans rfl; have hcz191_3 : w184.cell? ⟨gb352, 3, none⟩ = some (.int .u64 0) := (blk_cell BK352.out 3).trans rfl; have hcz191_4 : w184.cell? ⟨gb352, 4, none⟩ = some (.bool false) := (blk_cell BK352.out 4).trans rfl; have hfz191_0 := blk_frozen BK352.out 0; have hfz191_1 := blk_frozen BK352.out 1; have hfz191_2 := blk_frozen BK352.out 2; have hfz191_3 := blk_frozen BK352.out 3; have hfz191_4 := blk_frozen BK352.out 4; have hcz192_0 : w184.cell? ⟨gb346, 0, none⟩ = some (.int .u64 t341) := (blk_cell BK346.out 0).trans rfl; have hcz192_1 : w184.cell? ⟨gb346, 1, none⟩ = some (.int .u64 t342) := (blk_cell BK346.out 1).trans rfl; have hcz192_2 : w184.cell? ⟨gb346, 2, none⟩ = some (.int .u64 t343) := (blk_cell BK346.out 2).trans rfl; have hcz192_3 : w184.cell? ⟨gb346, 3, none⟩ = some (.int .u64 t344) := (blk_cell BK346.out 3).trans rfl; have hfz192_0 := blk_frozen BK346.out 0; have hfz192_1 := blk_frozen BK346.out 1; have hfz192_2 := blk_frozen BK346.out 2; have hfz192_3 := blk_frozen BK346.out 3))
                   go_ret
                   exact ⟨by first | rfl | (simp [errW_none, errW_some] <;> rfl) | (simp [*, errW_none, errW_some] <;> rfl), by repeat (first | (with_reducible first | exact HB.out | apply below_alloc | apply pw_below_drewN | apply below_drew1 | refine below_set ?_ GE303.out | refine below_set ?_ GE304.out | refine below_set ?_ GE315.out | refine below_set ?_ GE316.out | refine below_set ?_ GE319.out | refine below_set ?_ GE346.out | refine below_set ?_ GE352.out) | exact HB.out)⟩
                  ·
                   rw [if_neg c163] at H
                   exact absurd H (by simp)
                 ·
                  rw [if_neg c162] at H
                  exact absurd H (by simp)
                ·
                 rw [if_neg c161] at H
                 exact absurd H (by simp)
               ·
                rw [if_neg c160] at H
                exact absurd H (by simp)
              ·
               rw [if_neg c159] at H
               exact absurd H (by simp)
 ·
  replace c5 := Bool.eq_false_iff.mpr c5
  subst c5
  have H1 : (none) = some r := by rw [if_neg (show ¬ (false = true) by decide)] at H; exact H
  clear H
  have H := H1
  clear H1
  exact absurd H (by simp)

end Go.Proofs.Ytikicibbbeofnaa.MR
