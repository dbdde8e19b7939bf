-- Written by wip/hprint.py (this session's) with the kit's printer and contracts of our own. Not trusted: Lean checks it.
import Derived.Test.YtikicibbbeofnaaMB0
import Derived.Test.YtikicibbbeofnaaMB1
import Derived.Test.YtikicibbbeofnaaMB3
import Derived.Test.YtikicibbbeofnaaMB4
import Derived.Test.YtikicibbbeofnaaMB5
import Derived.Test.YtikicibbbeofnaaMB6d
namespace Go.Proofs.Ytikicibbbeofnaa.MB
open List (setIfInBounds_toArray set_cons_zero set_cons_succ map_toArray map_cons map_nil)
open Go.RowKit Go.Proofs.YtikicibbbeofnaaW.PrintWords Go.Proofs.YtikicibbbeofnaaW.PrintLast Go.Proofs.YtikicibbbeofnaaW.PrintMore
attribute [local go_sem] max2_int min2_int max_two min_two max_three min_three max_four min_four   -- for this text's walks alone
set_option linter.unusedVariables false
set_option linter.unusedSimpArgs false


set_option maxHeartbeats 8000000 in
set_option maxRecDepth 100000 in
theorem parolelaw04_MerkleBinds.calls (k : Nat) (A0 : Option Addr) (c0 : Nat) (l0 : List Int) (a1 : Int) (a2_0 : Int) (A2_1 : Option Addr) (c2_1 : Nat) (l2_1 : List Int) (r : Bool) (w : World) (hr0 : Kd.C (Kd.int .u64) w A0 l0.length l0) (hc0 : l0.length ≤ c0) (hr2_1 : Kd.C (Kd.int .u64) w A2_1 l2_1.length l2_1) (hc2_1 : l2_1.length ≤ c2_1) (h : parolelaw04_MerkleBinds.f k l0 a1 a2_0 l2_1 = some r) :
  Calls Try.prog 15 #[.slice A0 l0.length c0, .int .u8 a1, .agg #[.int .u64 a2_0, .slice A2_1 l2_1.length c2_1]] w fun e w' => e = .returned (.bool r) ∧ Below w.heap.size w w' := by
 have hu50 := Try.underlying50
 have hu46 := Try.underlying46
 have hu60 := Try.underlying60
 have hu59 := Try.underlying59
 have HR0 := Aside0.mk hr0
 have HC0 := Aside0.mk hc0
 clear hr0 hc0
 have HR2_1 := Aside0.mk hr2_1
 have HC2_1 := Aside0.mk hc2_1
 clear hr2_1 hc2_1
 have HB := Aside0.mk (Below.refl w.heap.size w)
 have H : ((parolelaw04_examples.f k).bind fun t191 => (if t191 = true then (if (l0.length : Int) = 0 then (parolelaw04_MerkleBinds.j0 k l0 a1 t191 true a2_0 l2_1) else (if (l0.length : Int) > 40 then (parolelaw04_MerkleBinds.j0 k l0 a1 t191 true a2_0 l2_1) else (parolelaw04_MerkleBinds.j0 k l0 a1 t191 (decide ((l2_1.length : Int) > 40)) a2_0 l2_1))) else (none))) = some r := h
 clear h
 replace H := Option.bind_eq_some_iff.mp H
 obtain ⟨t191, A40, H⟩ := H
 replace H : (if t191 = true then (if (l0.length : Int) = 0 then (parolelaw04_MerkleBinds.j0 k l0 a1 t191 true a2_0 l2_1) else (if (l0.length : Int) > 40 then (parolelaw04_MerkleBinds.j0 k l0 a1 t191 true a2_0 l2_1) else (parolelaw04_MerkleBinds.j0 k l0 a1 t191 (decide ((l2_1.length : Int) > 40)) a2_0 l2_1))) else (none)) = some r := H
 have A4 := Aside0.mk A40
 clear A40
 by_cases c5 : t191 = true
 ·
  subst c5
  have H1 : (if (l0.length : Int) = 0 then (parolelaw04_MerkleBinds.j0 k l0 a1 true true a2_0 l2_1) else (if (l0.length : Int) > 40 then (parolelaw04_MerkleBinds.j0 k l0 a1 true true a2_0 l2_1) else (parolelaw04_MerkleBinds.j0 k l0 a1 true (decide ((l2_1.length : Int) > 40)) a2_0 l2_1))) = some r := by rw [if_pos rfl] at H; exact H
  clear H
  have H := H1
  clear H1
  have HC6 := Aside0.mk H
  clear H
  go_enter Try.func15, Try.ntmps15
  go_upto_region 4 with (first | ((with_reducible refine gate_dst (N := 5) rfl ?_); (try (refine gate_guard (by rfl) ?_; dsimp only)); refine box_event ?hg (N := 5) ?hd (cs := #[.int .u64 a2_0, .slice A2_1 l2_1.length c2_1]) (t := 50) ?hr ?_; (case hd => rfl); (case hg => rfl); (case hr => first | (go_simp; done) | (go_simp; rfl)); intro gb190 hg w7 hbox hb; have n0_ := Aside0.mk (below_step (by repeat (first | (with_reducible first | exact HB.out | apply below_alloc | apply pw_below_drewN | apply below_drew1) | exact HB.out)) hb); have n1_ := Aside0.mk (hbox); have n2_ := Aside0.mk ((by rw [hg]; exact (below_size (by repeat (first | (with_reducible first | exact HB.out | apply below_alloc | apply pw_below_drewN | apply below_drew1) | exact HB.out))) : w.heap.size ≤ gb190)); have n3_ := Aside0.mk ((by rw [hg]; exact (below_size (by repeat (first | (with_reducible first | exact HB.out | apply below_alloc | apply pw_below_drewN | apply below_drew1) | exact HB.out))) : w.heap.size ≤ gb190)); clear HB; have HB := n0_; have BK190 := n1_; have GW190 := n2_; have GE190 := n3_; clear n0_ n1_ n2_ n3_; clear hb hbox hg) | ((with_reducible refine gate_callee (f := 31) rfl ?_); refine goesL_ (some 15) rfl rfl Try.func31 (by kernel_rfl) rfl #[] rfl (by (try simp only [map_toArray, map_cons, map_nil]); first | done | rfl) ?_; (with_reducible refine (parolelaw04_examples.calls k  true _ A4.out).mono ?_); rintro e w8 ⟨rfl, hb⟩; refine ⟨_, rfl, ?_⟩; have n0_ := Aside0.mk (blk_below (g := gb190) (o := .cells #[.int .u64 a2_0, .slice A2_1 l2_1.length c2_1] 50 (0, 0)) (by (with_reducible repeat (first | refine blk_drewN ?_ _ | refine blk_drew ?_ | refine blk_alloc ?_ _)); exact BK190.out) hb); have n1_ := Aside0.mk (below_step (by repeat (first | (with_reducible first | exact HB.out | apply below_alloc | apply pw_below_drewN | apply below_drew1 | refine below_set ?_ GE190.out) | exact HB.out)) hb); clear BK190; clear HB; have BK190 := n0_; have HB := n1_; clear n0_ n1_; (try clear hb); (try clear hb2); (try clear hk); (try clear hi)))
  (try simp only [Act.put, setIfInBounds_toArray, set_cons_zero, set_cons_succ])
  go_cut [31] (fun v31 wc => ∃ (kq : Nat) (x31_5 : Bool), v31 = .bool x31_5 ∧ Aside0 (parolelaw04_MerkleBinds.j0 kq l0 a1 true x31_5 a2_0 l2_1 = some r) ∧ Aside0 (kq ≤ k) ∧ Aside0 (wc.heap[gb190]? = some (.cells #[.int .u64 a2_0, (.slice A2_1 l2_1.length c2_1)] 50 (0, 0))) ∧ Aside0 (Below w.heap.size w wc))
  case first =>
   have H := HC6.out
   clear HC6
   by_cases c9 : (l0.length : Int) = 0
   ·
    rw [if_pos c9] at H
    have c9b0 : ((l0.length : Int) == 0) = true := beq_iff_eq.mpr c9
    have c9b1 : ((l0.length : Int) != 0) = false := bne_eq_false_iff_eq.mpr c9
    clear c9
    (first | rw [c9b0] | (simp only [i64_w, i32_w]; rw [c9b0]) | skip)
    have H' := Aside0.mk H
    clear H
    go_wp2
    go_meet
    case rel => exact ⟨_, (true), (by first | rfl | (simp; done) | (simp [*]; done)), H', ⟨by first | omega | exact Nat.le_refl _⟩, ⟨by (with_reducible repeat (first | refine blk_drewN ?_ _ | refine blk_drew ?_ | refine blk_alloc ?_ _)); exact BK190.out⟩, ⟨by repeat (first | (with_reducible first | exact HB.out | apply below_alloc | apply pw_below_drewN | apply below_drew1 | refine below_set ?_ GE190.out) | exact HB.out)⟩⟩
   ·
    rw [if_neg c9] at H
    have c9b0 : ((l0.length : Int) == 0) = false := beq_eq_false_iff_ne.mpr c9
    have c9b1 : ((l0.length : Int) != 0) = true := bne_iff_ne.mpr c9
    have c9b2 : ¬ (l0 = []) := fun h_ => c9 (by rw [h_]; rfl)
    (first | rw [c9b0] | (simp only [i64_w, i32_w]; rw [c9b0]) | skip)
    by_cases c10 : (l0.length : Int) > 40
    ·
     rw [if_pos c10] at H
     have c10b0 : decide (40 < (l0.length : Int)) = true := decide_eq_true c10
     have c10b1 : decide (40 < l0.length) = true := decide_eq_true (by omega)
     clear c10
     have H' := Aside0.mk H
     clear H
     go_wp2
     go_meet
     case rel => exact ⟨_, (true), (by first | rfl | (simp; done) | (simp [*]; done)), H', ⟨by first | omega | exact Nat.le_refl _⟩, ⟨by (with_reducible repeat (first | refine blk_drewN ?_ _ | refine blk_drew ?_ | refine blk_alloc ?_ _)); exact BK190.out⟩, ⟨by repeat (first | (with_reducible first | exact HB.out | apply below_alloc | apply pw_below_drewN | apply below_drew1 | refine below_set ?_ GE190.out) | exact HB.out)⟩⟩
    ·
     rw [if_neg c10] at H
     have c10b0 : decide (40 < (l0.length : Int)) = false := decide_eq_false c10
     have c10b1 : decide (40 < l0.length) = false := decide_eq_false (by omega)
     clear c10
     have H' := Aside0.mk H
     clear H
     have hcz11_0 : w8.cell? ⟨gb190, 0, none⟩ = some (.int .u64 a2_0) := (blk_cell BK190.out 0).trans rfl
     have hcz11_1 : w8.cell? ⟨gb190, 1, none⟩ = some (.slice A2_1 l2_1.length c2_1) := (blk_cell BK190.out 1).trans rfl
     have hfz11_0 := blk_frozen BK190.out 0
     have hfz11_1 := blk_frozen BK190.out 1
     go_wp2
     go_meet
     case rel => exact ⟨_, (decide ((l2_1.length : Int) > 40)), (by first | rfl | (simp; done) | (simp [*]; done)), H', ⟨by first | omega | exact Nat.le_refl _⟩, ⟨by (with_reducible repeat (first | refine blk_drewN ?_ _ | refine blk_drew ?_ | refine blk_alloc ?_ _)); exact BK190.out⟩, ⟨by repeat (first | (with_reducible first | exact HB.out | apply below_alloc | apply pw_below_drewN | apply below_drew1 | refine below_set ?_ GE190.out) | exact HB.out)⟩⟩
  case rest =>
   clear HC6
   try clear c1
   try clear c2
   try clear p2
   try clear c3
   try clear c5
   try clear c9
   try clear c9b0
   try clear c9b1
   try clear c9b2
   try clear c10
   try clear c10b0
   try clear c10b1
   try clear hcz11_0
   try clear hcz11_1
   try clear hfz11_0
   try clear hfz11_1
   obtain ⟨kq, x31_5, rfl, HA, HJ5, BK190, HB⟩ := hcut
   cases kq with
   | zero => exact absurd HA.out (by simp [parolelaw04_MerkleBinds.j0])
   | succ kj5 =>
    have H := HA.out
    clear HA
    simp only [parolelaw04_MerkleBinds.j0] at H
    by_cases c12 : x31_5 = true
    ·
     subst c12
     have H1 : (some true) = some r := by rw [if_pos rfl] at H; exact H
     clear H
     have H := H1
     clear H1
     obtain rfl := Option.some.inj H
     go_wp2
     go_ret
     exact ⟨by first | rfl | (simp [errW_none, errW_some] <;> rfl) | (simp [*, errW_none, errW_some] <;> rfl), by repeat (first | (with_reducible first | exact HB.out | apply below_alloc | apply pw_below_drewN | apply below_drew1 | refine below_set ?_ GE190.out) | exact HB.out)⟩
    ·
     replace c12 := Bool.eq_false_iff.mpr c12
     subst c12
     have H1 : (if (l0.length : Int) = 0 then (none) else ((merkle_Root.f l0).bind fun t192 => ((parolelaw04_open.f l0 (Int.tmod (wrap64 (a1)) (l0.length : Int))).bind fun bt193 => (if 0 ≤ (Int.tmod (wrap64 (a1)) (l0.length : Int)) then (if (Int.tmod (wrap64 (a1)) (l0.length : Int)) < (l0.length : Int) then (if bt193.2 = 0 then ((parolelaw04_check.f t192 (l0.length : Int) (Int.tmod (wrap64 (a1)) (l0.length : Int)) (rd l0 (Int.tmod (wrap64 (a1)) (l0.length : Int))) bt193.1).bind fun t200 => (parolelaw04_MerkleBinds.j1 kj5 l0 true (Int.tmod (wrap64 (a1)) (l0.length : Int)) t192 (t200 != 0) a2_0 l2_1 (rd l0 (Int.tmod (wrap64 (a1)) (l0.length : Int))) bt193.1)) else (parolelaw04_MerkleBinds.j1 kj5 l0 true (Int.tmod (wrap64 (a1)) (l0.length : Int)) t192 true a2_0 l2_1 (rd l0 (Int.tmod (wrap64 (a1)) (l0.length : Int))) bt193.1)) else (none)) else (none))))) = some r := by rw [if_neg (show ¬ (false = true) by decide)] at H; exact H
     clear H
     have H := H1
     clear H1
     by_cases c13 : (l0.length : Int) = 0
     ·
      rw [if_pos c13] at H
      exact absurd H (by simp)
     ·
      rw [if_neg c13] at H
      have c13b0 : ((l0.length : Int) == 0) = false := beq_eq_false_iff_ne.mpr c13
      have c13b1 : ((l0.length : Int) != 0) = true := bne_iff_ne.mpr c13
      have c13b2 : ¬ (l0 = []) := fun h_ => c13 (by rw [h_]; rfl)
      replace H := Option.bind_eq_some_iff.mp H
      obtain ⟨t192, A140, H⟩ := H
      replace H : ((parolelaw04_open.f l0 (Int.tmod (wrap64 (a1)) (l0.length : Int))).bind fun bt193 => (if 0 ≤ (Int.tmod (wrap64 (a1)) (l0.length : Int)) then (if (Int.tmod (wrap64 (a1)) (l0.length : Int)) < (l0.length : Int) then (if bt193.2 = 0 then ((parolelaw04_check.f t192 (l0.length : Int) (Int.tmod (wrap64 (a1)) (l0.length : Int)) (rd l0 (Int.tmod (wrap64 (a1)) (l0.length : Int))) bt193.1).bind fun t200 => (parolelaw04_MerkleBinds.j1 kj5 l0 true (Int.tmod (wrap64 (a1)) (l0.length : Int)) t192 (t200 != 0) a2_0 l2_1 (rd l0 (Int.tmod (wrap64 (a1)) (l0.length : Int))) bt193.1)) else (parolelaw04_MerkleBinds.j1 kj5 l0 true (Int.tmod (wrap64 (a1)) (l0.length : Int)) t192 true a2_0 l2_1 (rd l0 (Int.tmod (wrap64 (a1)) (l0.length : Int))) bt193.1)) else (none)) else (none))) = some r := H
      have A14 := Aside0.mk A140
      clear A140
      replace H := Option.bind_eq_some_iff.mp H
      obtain ⟨⟨t193, t196⟩, A150, H⟩ := H
      replace H : (if 0 ≤ (Int.tmod (wrap64 (a1)) (l0.length : Int)) then (if (Int.tmod (wrap64 (a1)) (l0.length : Int)) < (l0.length : Int) then (if t196 = 0 then ((parolelaw04_check.f t192 (l0.length : Int) (Int.tmod (wrap64 (a1)) (l0.length : Int)) (rd l0 (Int.tmod (wrap64 (a1)) (l0.length : Int))) t193).bind fun t200 => (parolelaw04_MerkleBinds.j1 kj5 l0 true (Int.tmod (wrap64 (a1)) (l0.length : Int)) t192 (t200 != 0) a2_0 l2_1 (rd l0 (Int.tmod (wrap64 (a1)) (l0.length : Int))) t193)) else (parolelaw04_MerkleBinds.j1 kj5 l0 true (Int.tmod (wrap64 (a1)) (l0.length : Int)) t192 true a2_0 l2_1 (rd l0 (Int.tmod (wrap64 (a1)) (l0.length : Int))) t193)) else (none)) else (none)) = some r := H
      have A15 := Aside0.mk A150
      clear A150
      obtain ⟨ji16, hji16⟩ : ∃ j_ : Int, (Int.tmod (wrap64 (a1)) (l0.length : Int)) = j_ := ⟨_, rfl⟩
      replace H : (if 0 ≤ (ji16) then (if (ji16) < (l0.length : Int) then (if t196 = 0 then ((parolelaw04_check.f t192 (l0.length : Int) (ji16) (rd l0 (ji16)) t193).bind fun t200 => (parolelaw04_MerkleBinds.j1 kj5 l0 true ji16 t192 (t200 != 0) a2_0 l2_1 (rd l0 (ji16)) t193)) else (parolelaw04_MerkleBinds.j1 kj5 l0 true ji16 t192 true a2_0 l2_1 (rd l0 (ji16)) t193)) else (none)) else (none)) = some r := by first | (rw [hji16] at H; exact H) | (simp only [hji16] at H ⊢; exact H)
      (try rw [hji16] at A14)
      (try rw [hji16] at A15)
      by_cases c17 : 0 ≤ (ji16)
      ·
       rw [if_pos c17] at H
       have c17b0 : decide (0 ≤ (ji16)) = true := decide_eq_true c17
       clear c17
       by_cases c18 : (ji16) < (l0.length : Int)
       ·
        rw [if_pos c18] at H
        have c18b0 : decide ((ji16) < (l0.length : Int)) = true := decide_eq_true c18
        clear c18
        have HC19 := Aside0.mk H
        clear H
        try go_wp2_with (first | ((with_reducible refine gate_callee (f := 33) rfl ?_); refine goesL_ (some 39) rfl rfl Try.func33 (by kernel_rfl) rfl #[.slice A0 l0.length c0] rfl (by (try simp only [map_toArray, map_cons, map_nil]); first | done | rfl) ?_; (with_reducible refine (merkle_Root.calls _ _ l0 t192 _ ?side1 ?side2 A14.out).mono ?_); (case side1 => repeat (first | exact (Kd.C_below HR0.out HB.out) | (with_reducible refine Kd.C_alloc ?_ _) | (with_reducible refine Kd.C_drewN ?_ _) | (with_reducible refine Kd.C_drew ?_))); (case side2 => exact HC0.out); rintro e w' ⟨rfl, ⟨nd, rfl⟩⟩; refine ⟨_, rfl, ?_⟩; (try (rw [drewN_self wc]; generalize hq_ : World.drewN wc _ = wc; have n0_ : Aside0 (wc.heap[gb190]? = some (.cells #[.int .u64 a2_0, .slice A2_1 l2_1.length c2_1] 50 (0, 0))) := ⟨by rw [← hq_]; exact (by (with_reducible repeat (first | refine blk_drewN ?_ _ | refine blk_drew ?_ | refine blk_alloc ?_ _)); exact BK190.out)⟩; have n1_ : Aside0 (Below w.heap.size w wc) := ⟨by rw [← hq_]; exact (by repeat (first | (with_reducible first | exact HB.out | apply below_alloc | apply pw_below_drewN | apply below_drew1 | refine below_set ?_ GE190.out) | exact HB.out))⟩; clear BK190 HB hq_; have BK190 := n0_; have HB := n1_; clear n0_ n1_))) | ((with_reducible refine gate_callee (f := 34) rfl ?_); refine goesL_ (some 42) rfl rfl Try.func34 (by kernel_rfl) rfl #[.slice A0 l0.length c0, .int .i64 ji16] rfl (by (try simp only [map_toArray, map_cons, map_nil]); first | done | (simp only [hji16]; rfl) | rfl) ?_; (with_reducible refine (parolelaw04_open.calls _ _ l0 ji16 t193 t196 _ ?side1 ?side2 A15.out).mono ?_); (case side1 => repeat (first | exact (Kd.C_below HR0.out HB.out) | (with_reducible refine Kd.C_alloc ?_ _) | (with_reducible refine Kd.C_drewN ?_ _) | (with_reducible refine Kd.C_drew ?_))); (case side2 => exact HC0.out); rintro e w20 ⟨v194, rfl, ho0, hb⟩; refine ⟨_, rfl, ?_⟩; have n0_ := Aside0.mk (Kd.R_lower ho0 (below_size (by repeat (first | (with_reducible first | exact HB.out | apply below_alloc | apply pw_below_drewN | apply below_drew1 | refine below_set ?_ GE190.out) | exact HB.out)))); have n1_ := Aside0.mk (blk_below (g := gb190) (o := .cells #[.int .u64 a2_0, .slice A2_1 l2_1.length c2_1] 50 (0, 0)) (by (with_reducible repeat (first | refine blk_drewN ?_ _ | refine blk_drew ?_ | refine blk_alloc ?_ _)); exact BK190.out) hb); have n2_ := Aside0.mk (below_step (by repeat (first | (with_reducible first | exact HB.out | apply below_alloc | apply pw_below_drewN | apply below_drew1 | refine below_set ?_ GE190.out) | exact HB.out)) hb); clear BK190; clear HB; have HO195 := n0_; have BK190 := n1_; have HB := n2_; clear n0_ n1_ n2_; (try clear hb); (try clear hb2); (try clear hk); (try clear hi); (try clear ho0)) | ((with_reducible refine gate_dst (N := 10) rfl ?_); (try (refine gate_guard (by rfl) ?_; dsimp only)); refine box_event ?hg (N := 10) ?hd (cs := #[.slice none 0 0, .int .i64 0]) (t := 46) ?hr ?_; (case hd => rfl); (case hg => rfl); (case hr => first | (go_simp; done) | (go_simp; rfl)); intro gb197 hg w21 hbox hb; have n0_ := Aside0.mk (Kd.R_below (by (with_reducible repeat (first | apply Kd.R_alloc | apply Kd.R_drewN | apply Kd.R_drew)); exact HO195.out) hb); have n1_ := Aside0.mk (blk_below (g := gb190) (o := .cells #[.int .u64 a2_0, .slice A2_1 l2_1.length c2_1] 50 (0, 0)) (by (with_reducible repeat (first | refine blk_drewN ?_ _ | refine blk_drew ?_ | refine blk_alloc ?_ _)); exact BK190.out) hb); have n2_ := Aside0.mk (below_step (by repeat (first | (with_reducible first | exact HB.out | apply below_alloc | apply pw_below_drewN | apply below_drew1 | refine below_set ?_ GE190.out) | exact HB.out)) hb); have n3_ := Aside0.mk (hbox); have n4_ := Aside0.mk ((by rw [hg]; exact (below_size (by repeat (first | (with_reducible first | exact HB.out | apply below_alloc | apply pw_below_drewN | apply below_drew1 | refine below_set ?_ GE190.out) | exact HB.out))) : w.heap.size ≤ gb197)); have n5_ := Aside0.mk ((by rw [hg]; exact (below_size (by repeat (first | (with_reducible first | exact HB.out | apply below_alloc | apply pw_below_drewN | apply below_drew1 | refine below_set ?_ GE190.out) | exact HB.out))) : w.heap.size ≤ gb197)); have n6_ := Aside0.mk ((by rw [hg]; exact Nat.ne_of_lt (blk_lt (g := gb190) (o := .cells #[.int .u64 a2_0, .slice A2_1 l2_1.length c2_1] 50 (0, 0)) (by (with_reducible repeat (first | refine blk_drewN ?_ _ | refine blk_drew ?_ | refine blk_alloc ?_ _)); exact BK190.out)) : gb190 ≠ gb197)); have n7_ := Aside0.mk ((by rw [hg]; exact Nat.ne_of_gt (blk_lt (g := gb190) (o := .cells #[.int .u64 a2_0, .slice A2_1 l2_1.length c2_1] 50 (0, 0)) (by (with_reducible repeat (first | refine blk_drewN ?_ _ | refine blk_drew ?_ | refine blk_alloc ?_ _)); exact BK190.out)) : gb197 ≠ gb190)); clear HO195; clear BK190; clear HB; have HO195 := n0_; have BK190 := n1_; have HB := n2_; have BK197 := n3_; have GW197 := n4_; have GE197 := n5_; have NB190_197 := n6_; have NB197_190 := n7_; clear n0_ n1_ n2_ n3_ n4_ n5_ n6_ n7_; clear hb hbox hg; obtain ⟨Ao22, co22, eo22⟩ := Kd.R_slice HO195.out; subst eo22; have hnb23 := NB197_190.out; have hnc23 := NB190_197.out; have hcz24_0 : w21.cell? ⟨gb197, 0, none⟩ = some (.slice none 0 0) := (blk_cell BK197.out 0).trans rfl; have hcz24_1 : w21.cell? ⟨gb197, 1, none⟩ = some (.int .i64 0) := (blk_cell BK197.out 1).trans rfl; have hfz24_0 := blk_frozen BK197.out 0; have hfz24_1 := blk_frozen BK197.out 1))
        have n0_ : Aside0 (Kd.R (Kd.int .u64) 22 ((w21.setCell ⟨gb197, 0, none⟩ (.slice Ao22 t193.length co22)).setCell ⟨gb197, 1, none⟩ (.int .i64 t196)) w.heap.size (fun _ => True) (.slice Ao22 t193.length co22) t193) := ⟨by (with_reducible repeat (first | apply Kd.R_alloc | apply Kd.R_drewN | apply Kd.R_drew)); exact Kd.R_mono (Kd.R_far (p := ⟨gb197, 1, none⟩) (Kd.R_far (p := ⟨gb197, 0, none⟩) (Kd.R_types HO195.out BK197.out (by decide)) (fun _ hk => by first | exact hk.2 | exact hk | exact ⟨hk.2, hk.1⟩ | simp_all) (.slice Ao22 t193.length co22)) (fun _ hk => by first | exact hk.2 | exact hk | exact ⟨hk.2, hk.1⟩ | simp_all) (.int .i64 t196)) (fun _ hk => trivial)⟩
        have n1_ : Aside0 (((w21.setCell ⟨gb197, 0, none⟩ (.slice Ao22 t193.length co22)).setCell ⟨gb197, 1, none⟩ (.int .i64 t196)).heap[gb190]? = some (.cells #[.int .u64 a2_0, .slice A2_1 l2_1.length c2_1] 50 (0, 0))) := ⟨by (with_reducible repeat (first | refine blk_drewN ?_ _ | refine blk_drew ?_ | refine blk_alloc ?_ _)); refine blk_far ?_ NB190_197.out _; (with_reducible repeat (first | refine blk_drewN ?_ _ | refine blk_drew ?_ | refine blk_alloc ?_ _)); refine blk_far ?_ NB190_197.out _; (with_reducible repeat (first | refine blk_drewN ?_ _ | refine blk_drew ?_ | refine blk_alloc ?_ _)); exact BK190.out⟩
        have n2_ : Aside0 (((w21.setCell ⟨gb197, 0, none⟩ (.slice Ao22 t193.length co22)).setCell ⟨gb197, 1, none⟩ (.int .i64 t196)).heap[gb197]? = some (.cells #[.slice Ao22 t193.length co22, .int .i64 t196] 46 (0, 0))) := ⟨by (with_reducible repeat (first | refine blk_drewN ?_ _ | refine blk_drew ?_ | refine blk_alloc ?_ _)); refine blk_put (cs := #[.slice Ao22 t193.length co22, .int .i64 0]) ?_ 1 _ rfl; (with_reducible repeat (first | refine blk_drewN ?_ _ | refine blk_drew ?_ | refine blk_alloc ?_ _)); refine blk_put (cs := #[.slice none 0 0, .int .i64 0]) ?_ 0 _ rfl; (with_reducible repeat (first | refine blk_drewN ?_ _ | refine blk_drew ?_ | refine blk_alloc ?_ _)); exact BK197.out⟩
        have n3_ : Aside0 (Below w.heap.size w ((w21.setCell ⟨gb197, 0, none⟩ (.slice Ao22 t193.length co22)).setCell ⟨gb197, 1, none⟩ (.int .i64 t196))) := ⟨by repeat (first | (with_reducible first | exact HB.out | apply below_alloc | apply pw_below_drewN | apply below_drew1 | refine below_set ?_ GE190.out | refine below_set ?_ GE197.out) | exact HB.out)⟩
        (try clear HO195)
        (try clear BK190)
        (try clear BK197)
        (try clear HB)
        generalize ((w21.setCell ⟨gb197, 0, none⟩ (.slice Ao22 t193.length co22)).setCell ⟨gb197, 1, none⟩ (.int .i64 t196)) = w25 at n0_ n1_ n2_ n3_ ⊢
        have HO195 := n0_
        have BK190 := n1_
        have BK197 := n2_
        have HB := n3_
        clear n0_ n1_ n2_ n3_
        have n0_ := Aside0.mk (Kd.R_drew HO195.out)
        have n1_ := Aside0.mk (blk_drew BK190.out)
        have n2_ := Aside0.mk (blk_drew BK197.out)
        have n3_ := Aside0.mk (below_drew1 HB.out)
        clear HO195
        clear BK190
        clear BK197
        clear HB
        have HO195 := n0_
        have BK190 := n1_
        have BK197 := n2_
        have HB := n3_
        clear n0_ n1_ n2_ n3_
        have p198 : 0 ≤ ((ji16) : Int) := of_decide_eq_true (by first | (with_reducible assumption) | assumption)
        have q198 : (ji16) < (l0.length : Int) := of_decide_eq_true (by first | (with_reducible assumption) | assumption)
        obtain ⟨ad198, e198, hx198_0⟩ := Kd.at_int HR0.out (ji16) p198 q198
        have hw198_0 := hx198_0
        cases e198
        replace hx198_0 := (HB.out.cell (World.block_lt_of_cell? w _ hx198_0)).trans hx198_0
        replace p198 := eq_true p198
        replace q198 := eq_true q198
        refine start_ (n := 9) (S := fun w' => w'.cell? ⟨gb197, 0, none⟩ = some (.slice Ao22 t193.length co22) ∧ w'.cell? ⟨gb197, 1, none⟩ = some (.int .i64 t196) ∧ w'.cell? (ad198.add ((ji16)).toNat) = some (.int .u64 (rd l0 (ji16)))) (ds := []) #[false, false, false, false, false, false, false, false, false] (by kernel_rfl) rfl rfl ⟨(blk_cell BK197.out 0).trans rfl, (blk_cell BK197.out 1).trans rfl, ((HB.out.cell (World.block_lt_of_cell? w _ hw198_0)).trans hw198_0)⟩ (fun hHeld => ?_); refine with_tabW parolelaw04_MerkleBinds.tab9 parolelaw04_MerkleBinds.bits9 (fun HT_ HW_ => ?_)
        generalize w25.drew = w26 at HO195 BK190 BK197 HB hx198_0 hHeld ⊢
        refine pure_ (i := 0) (N := some 43) (v := ?_) (a' := ?_) (bl_15 9 1) rfl rfl (any_of HT_.out (by kernel_rfl)) (fun _ _ _ h => h) (Or.inl ⟨by rfl, ?_⟩) ?_ ?_; rotate_left; (· intro w'; go_simp; with_reducible rfl); rotate_left; (· simp only [Act.put, setIfInBounds_toArray, set_cons_zero, set_cons_succ, i64_w, i32_w]; rfl)
        refine pure_ (i := 1) (N := some 44) (v := ?_) (a' := ?_) (bl_15 9 3) rfl rfl (any_of HT_.out (by kernel_rfl)) (fun _ _ _ h => h) (Or.inl ⟨by rfl, ?_⟩) ?_ ?_; rotate_left; (· intro w'; go_simp; with_reducible rfl); rotate_left; (· simp only [Act.put, setIfInBounds_toArray, set_cons_zero, set_cons_succ, i64_w, i32_w]; rfl)
        refine pure_ (i := 2) (N := some 45) (v := ?_) (a' := ?_) (bl_15 9 7) rfl rfl (any_of HT_.out (by kernel_rfl)) (fun _ _ _ h => h) (Or.inl ⟨by rfl, ?_⟩) ?_ ?_; rotate_left; (· intro w'; go_simp; with_reducible rfl); rotate_left; (· simp only [Act.put, setIfInBounds_toArray, set_cons_zero, set_cons_succ, i64_w, i32_w]; rfl)
        refine pure_ (i := 4) (N := some 47) (v := ?_) (a' := ?_) (bl_15 9 23) rfl rfl (any_of HT_.out (by kernel_rfl)) (fun _ _ _ h => h) (Or.inl ⟨by rfl, ?_⟩) ?_ ?_; rotate_left; (· intro w'; go_simp; with_reducible rfl); rotate_left; (· simp only [Act.put, setIfInBounds_toArray, set_cons_zero, set_cons_succ, i64_w, i32_w]; rfl)
        refine take_ (i := 3) (N := some 46) (v := ?_) (a' := ?_) (bl_15 9 31) rfl rfl (take_ofW HT_.out HW_.out (by kernel_rfl)) (fun _ _ _ h => h) (Or.inl ⟨by rfl, ?_⟩) hHeld ?_ ?_; rotate_left; (· rintro w' ⟨s0, s1, s2⟩; go_simp; with_reducible rfl); rotate_left; (· simp only [Act.put, setIfInBounds_toArray, set_cons_zero, set_cons_succ, i64_w, i32_w]; rfl)
        refine take_ (i := 5) (N := some 48) (v := ?_) (a' := ?_) (bl_15 9 63) rfl rfl (take_ofW HT_.out HW_.out (by kernel_rfl)) (fun _ _ _ h => h) (Or.inl ⟨by rfl, ?_⟩) hHeld ?_ ?_; rotate_left; (· rintro w' ⟨s0, s1, s2⟩; go_simp; with_reducible rfl); rotate_left; (· simp only [Act.put, setIfInBounds_toArray, set_cons_zero, set_cons_succ, i64_w, i32_w]; rfl)
        refine pure_ (i := 6) (N := some 49) (v := ?_) (a' := ?_) (bl_15 9 127) rfl rfl (any_of HT_.out (by kernel_rfl)) (fun _ _ _ h => h) (Or.inl ⟨by rfl, ?_⟩) ?_ ?_; rotate_left; (· intro w'; go_simp; with_reducible rfl); rotate_left; (· simp only [Act.put, setIfInBounds_toArray, set_cons_zero, set_cons_succ, i64_w, i32_w]; rfl)
        refine one_ (i := 7) (N := some 11) (bl_15 9 255) rfl rfl (one_of HT_.out (by kernel_rfl)) (by decide) (fun K hK => ?_)
        refine box_step ?hg (N := 11) ?hd (cs := #[.int .u64 0, .slice none 0 0]) (t := 50) ?hr ?_; (case hd => rfl); (case hg => rfl); (case hr => first | (go_simp; done) | (go_simp; rfl))
        intro gb199 hg w27 hbox hb
        have n0_ := Aside0.mk (Kd.R_below (by (with_reducible repeat (first | apply Kd.R_alloc | apply Kd.R_drewN | apply Kd.R_drew)); exact HO195.out) hb)
        have n1_ := Aside0.mk (blk_below (g := gb190) (o := .cells #[.int .u64 a2_0, .slice A2_1 l2_1.length c2_1] 50 (0, 0)) (by (with_reducible repeat (first | refine blk_drewN ?_ _ | refine blk_drew ?_ | refine blk_alloc ?_ _)); exact BK190.out) hb)
        have n2_ := Aside0.mk (blk_below (g := gb197) (o := .cells #[.slice Ao22 t193.length co22, .int .i64 t196] 46 (0, 0)) (by (with_reducible repeat (first | refine blk_drewN ?_ _ | refine blk_drew ?_ | refine blk_alloc ?_ _)); exact BK197.out) hb)
        have n3_ := Aside0.mk (below_step (by repeat (first | (with_reducible first | exact HB.out | apply below_alloc | apply pw_below_drewN | apply below_drew1 | refine below_set ?_ GE190.out | refine below_set ?_ GE197.out) | exact HB.out)) hb)
        have n4_ := Aside0.mk (hbox)
        have n5_ := Aside0.mk ((by rw [hg]; exact (below_size (by repeat (first | (with_reducible first | exact HB.out | apply below_alloc | apply pw_below_drewN | apply below_drew1 | refine below_set ?_ GE190.out | refine below_set ?_ GE197.out) | exact HB.out))) : w.heap.size ≤ gb199))
        have n6_ := Aside0.mk ((by rw [hg]; exact (below_size (by repeat (first | (with_reducible first | exact HB.out | apply below_alloc | apply pw_below_drewN | apply below_drew1 | refine below_set ?_ GE190.out | refine below_set ?_ GE197.out) | exact HB.out))) : w.heap.size ≤ gb199))
        have n7_ := Aside0.mk ((by rw [hg]; exact Nat.ne_of_lt (blk_lt (g := gb190) (o := .cells #[.int .u64 a2_0, .slice A2_1 l2_1.length c2_1] 50 (0, 0)) (by (with_reducible repeat (first | refine blk_drewN ?_ _ | refine blk_drew ?_ | refine blk_alloc ?_ _)); exact BK190.out)) : gb190 ≠ gb199))
        have n8_ := Aside0.mk ((by rw [hg]; exact Nat.ne_of_gt (blk_lt (g := gb190) (o := .cells #[.int .u64 a2_0, .slice A2_1 l2_1.length c2_1] 50 (0, 0)) (by (with_reducible repeat (first | refine blk_drewN ?_ _ | refine blk_drew ?_ | refine blk_alloc ?_ _)); exact BK190.out)) : gb199 ≠ gb190))
        have n9_ := Aside0.mk ((by rw [hg]; exact Nat.ne_of_lt (blk_lt (g := gb197) (o := .cells #[.slice Ao22 t193.length co22, .int .i64 t196] 46 (0, 0)) (by (with_reducible repeat (first | refine blk_drewN ?_ _ | refine blk_drew ?_ | refine blk_alloc ?_ _)); exact BK197.out)) : gb197 ≠ gb199))
        have n10_ := Aside0.mk ((by rw [hg]; exact Nat.ne_of_gt (blk_lt (g := gb197) (o := .cells #[.slice Ao22 t193.length co22, .int .i64 t196] 46 (0, 0)) (by (with_reducible repeat (first | refine blk_drewN ?_ _ | refine blk_drew ?_ | refine blk_alloc ?_ _)); exact BK197.out)) : gb199 ≠ gb197))
        clear HO195
        clear BK190
        clear BK197
        clear HB
        have HO195 := n0_
        have BK190 := n1_
        have BK197 := n2_
        have HB := n3_
        have BK199 := n4_
        have GW199 := n5_
        have GE199 := n6_
        have NB190_199 := n7_
        have NB199_190 := n8_
        have NB197_199 := n9_
        have NB199_197 := n10_
        clear n0_ n1_ n2_ n3_ n4_ n5_ n6_ n7_ n8_ n9_ n10_
        clear hb hbox hg
        refine hK.out _ _ ⟨(blk_cell BK197.out 0).trans rfl, (blk_cell BK197.out 1).trans rfl, ((HB.out.cell (World.block_lt_of_cell? w _ hw198_0)).trans hw198_0)⟩ (fun hHeld => ?_)
        clear hK K
        refine norm_ (a' := ?_) ?_ ?_
        rotate_left
        ·
         show Act.put _ (some 11) _ = _
         simp only [Act.put, setIfInBounds_toArray, set_cons_zero, set_cons_succ, i64_w, i32_w]
         rfl
        refine one_ (i := 8) (N := none) (bl_15 9 511) rfl rfl (one_of HT_.out (by kernel_rfl)) (by decide) (fun K hK => ?_)
        have hs28 : w27.cell? ⟨gb199, 0, none⟩ = some (.int .u64 0) := (blk_cell BK199.out 0).trans rfl
        have hfs28 := blk_frozen BK199.out 0
        have hns28_0 := NB190_199.out
        have hns28_1 := NB197_199.out
        have hms28_0 := NB199_190.out
        have hms28_1 := NB199_197.out
        have hs29 : w27.cell? ⟨gb199, 1, none⟩ = some (.slice none 0 0) := (blk_cell BK199.out 1).trans rfl
        have hfs29 := blk_frozen BK199.out 1
        have hns29_0 := NB190_199.out
        have hns29_1 := NB197_199.out
        have hms29_0 := NB199_190.out
        have hms29_1 := NB199_197.out
        refine skip_ (w1 := ?_) (by rfl) rfl ?_ ?_
        rotate_left
        ·
         go_simp
         rfl
        refine hK.out _ _ ⟨((cell_far (p := ⟨gb199, _, none⟩) NB197_199.out _).trans (((cell_far (p := ⟨gb199, _, none⟩) NB197_199.out _).trans (hHeld.1)))), ((cell_far (p := ⟨gb199, _, none⟩) NB197_199.out _).trans (((cell_far (p := ⟨gb199, _, none⟩) NB197_199.out _).trans (hHeld.2.1)))), ((cell_far (p := ⟨gb199, _, none⟩) (by first | exact Nat.ne_of_lt (Nat.lt_of_lt_of_le (by have := World.block_lt_of_cell? _ _ hw198_0; first | rwa [add_block] at this | exact this) GW199.out) | (rw [add_block]; exact Nat.ne_of_lt (Nat.lt_of_lt_of_le (by have := World.block_lt_of_cell? _ _ hw198_0; first | rwa [add_block] at this | exact this) GW199.out)) | (show (Addr.add _ _).block ≠ _; rw [add_block]; exact Nat.ne_of_lt (Nat.lt_of_lt_of_le (by have := World.block_lt_of_cell? _ _ hw198_0; first | rwa [add_block] at this | exact this) GW199.out)) | (dsimp only; exact Nat.ne_of_lt (Nat.lt_of_lt_of_le (by have := World.block_lt_of_cell? _ _ hw198_0; first | rwa [add_block] at this | exact this) GW199.out))) _).trans (((cell_far (p := ⟨gb199, _, none⟩) (by first | exact Nat.ne_of_lt (Nat.lt_of_lt_of_le (by have := World.block_lt_of_cell? _ _ hw198_0; first | rwa [add_block] at this | exact this) GW199.out) | (rw [add_block]; exact Nat.ne_of_lt (Nat.lt_of_lt_of_le (by have := World.block_lt_of_cell? _ _ hw198_0; first | rwa [add_block] at this | exact this) GW199.out)) | (show (Addr.add _ _).block ≠ _; rw [add_block]; exact Nat.ne_of_lt (Nat.lt_of_lt_of_le (by have := World.block_lt_of_cell? _ _ hw198_0; first | rwa [add_block] at this | exact this) GW199.out)) | (dsimp only; exact Nat.ne_of_lt (Nat.lt_of_lt_of_le (by have := World.block_lt_of_cell? _ _ hw198_0; first | rwa [add_block] at this | exact this) GW199.out))) _).trans (hHeld.2.2))))⟩ (fun hHeld => ?_)
        clear hK K
        refine done_ (done_of HT_.out (by kernel_rfl)) ?_
        go_upto_region 10 with (fail)
        go_cut [61] (fun v61 wc => ∃ (kq : Nat) (x61_18 : Bool), v61 = .bool x61_18 ∧ Aside0 (parolelaw04_MerkleBinds.j1 kq l0 true ji16 t192 x61_18 a2_0 l2_1 (rd l0 (ji16)) t193 = some r) ∧ Aside0 (kq ≤ kj5) ∧ Aside0 (Kd.R (Kd.int .u64) 22 wc w.heap.size (fun _ => True) (.slice Ao22 t193.length co22) t193) ∧ Aside0 (Kd.R (Kd.int .u64) 22 wc w.heap.size (fun _ => True) (.slice Ao22 t193.length co22) t193) ∧ Aside0 (wc.heap[gb190]? = some (.cells #[.int .u64 a2_0, (.slice A2_1 l2_1.length c2_1)] 50 (0, 0))) ∧ Aside0 (wc.heap[gb197]? = some (.cells #[(.slice Ao22 t193.length co22), .int .i64 t196] 46 (0, 0))) ∧ Aside0 (wc.heap[gb199]? = some (.cells #[.int .u64 (rd l0 (ji16)), (.slice Ao22 t193.length co22)] 50 (0, 0))) ∧ Aside0 (Below w.heap.size w wc))
        case first =>
         have H := HC19.out
         clear HC19
         by_cases c30 : t196 = 0
         ·
          rw [if_pos c30] at H
          have c30b0 : (t196 == 0) = true := beq_iff_eq.mpr c30
          have c30b1 : (t196 != 0) = false := bne_eq_false_iff_eq.mpr c30
          clear c30
          (first | rw [c30b0] | (simp only [i64_w, i32_w]; rw [c30b0]) | skip)
          replace H := Option.bind_eq_some_iff.mp H
          obtain ⟨t200, A310, H⟩ := H
          replace H : (parolelaw04_MerkleBinds.j1 kj5 l0 true ji16 t192 (t200 != 0) a2_0 l2_1 (rd l0 (ji16)) t193) = some r := H
          have A31 := Aside0.mk A310
          clear A310
          have H' := Aside0.mk H
          clear H
          have hnb32 := NB197_190.out
          have hnc32 := NB190_197.out
          have hnb33 := NB197_199.out
          have hnc33 := NB199_197.out
          have hcz34_0 : w27.cell? ⟨gb197, 0, none⟩ = some (.slice Ao22 t193.length co22) := (blk_cell BK197.out 0).trans rfl
          have hcz34_1 : w27.cell? ⟨gb197, 1, none⟩ = some (.int .i64 t196) := (blk_cell BK197.out 1).trans rfl
          have hfz34_0 := blk_frozen BK197.out 0
          have hfz34_1 := blk_frozen BK197.out 1
          have hnb35 := NB199_190.out
          have hnc35 := NB190_199.out
          have hcz36_0 : w27.cell? ⟨gb199, 0, none⟩ = some (.int .u64 0) := (blk_cell BK199.out 0).trans rfl
          have hcz36_1 : w27.cell? ⟨gb199, 1, none⟩ = some (.slice none 0 0) := (blk_cell BK199.out 1).trans rfl
          have hfz36_0 := blk_frozen BK199.out 0
          have hfz36_1 := blk_frozen BK199.out 1
          go_wp2_with (first | (go_at_call 35; (with_reducible refine (parolelaw04_check.calls t192 (l0.length : Int) ji16 (rd l0 (ji16)) _ _ t193 t200 _ ?side1 ?side2 A31.out).mono ?_); (case side1 => refine (Kd.R_reads' (e := 22) (base := w.heap.size) (ok := fun k_ => True) (n := t193.length) (c := co22) ?_).2.2; exact (by (with_reducible repeat (first | apply Kd.R_alloc | apply Kd.R_drewN | apply Kd.R_drew)); exact (Kd.R_mono (Kd.R_far (p := ⟨gb199, 1, none⟩) (Kd.R_far (p := ⟨gb199, 0, none⟩) (Kd.R_types HO195.out BK199.out (by decide)) (fun _ hk => by first | exact hk.2 | exact hk | exact ⟨hk.2, hk.1⟩ | simp_all) (.int .u64 (rd l0 (ji16)))) (fun _ hk => by first | exact hk.2 | exact hk | exact ⟨hk.2, hk.1⟩ | simp_all) (.slice Ao22 t193.length co22)) (fun _ h_ => h_.1)))); (case side2 => exact (Kd.R_reads' HO195.out).2.1); rintro e w37 ⟨rfl, hb⟩; have n0_ := Aside0.mk (Kd.R_below (by (with_reducible repeat (first | apply Kd.R_alloc | apply Kd.R_drewN | apply Kd.R_drew)); exact (Kd.R_mono (Kd.R_far (p := ⟨gb199, 1, none⟩) (Kd.R_far (p := ⟨gb199, 0, none⟩) (Kd.R_types HO195.out BK199.out (by decide)) (fun _ hk => by first | exact hk.2 | exact hk | exact ⟨hk.2, hk.1⟩ | simp_all) (.int .u64 (rd l0 (ji16)))) (fun _ hk => by first | exact hk.2 | exact hk | exact ⟨hk.2, hk.1⟩ | simp_all) (.slice Ao22 t193.length co22)) (fun _ h_ => h_.1))) hb); have n1_ := Aside0.mk (blk_below (g := gb190) (o := .cells #[.int .u64 a2_0, .slice A2_1 l2_1.length c2_1] 50 (0, 0)) (by (with_reducible repeat (first | refine blk_drewN ?_ _ | refine blk_drew ?_ | refine blk_alloc ?_ _)); refine blk_far ?_ NB190_199.out _; (with_reducible repeat (first | refine blk_drewN ?_ _ | refine blk_drew ?_ | refine blk_alloc ?_ _)); refine blk_far ?_ NB190_199.out _; (with_reducible repeat (first | refine blk_drewN ?_ _ | refine blk_drew ?_ | refine blk_alloc ?_ _)); exact BK190.out) hb); have n2_ := Aside0.mk (blk_below (g := gb197) (o := .cells #[.slice Ao22 t193.length co22, .int .i64 t196] 46 (0, 0)) (by (with_reducible repeat (first | refine blk_drewN ?_ _ | refine blk_drew ?_ | refine blk_alloc ?_ _)); refine blk_far ?_ NB197_199.out _; (with_reducible repeat (first | refine blk_drewN ?_ _ | refine blk_drew ?_ | refine blk_alloc ?_ _)); refine blk_far ?_ NB197_199.out _; (with_reducible repeat (first | refine blk_drewN ?_ _ | refine blk_drew ?_ | refine blk_alloc ?_ _)); exact BK197.out) hb); have n3_ := Aside0.mk (blk_below (g := gb199) (o := .cells #[.int .u64 (rd l0 (ji16)), .slice Ao22 t193.length co22] 50 (0, 0)) (by (with_reducible repeat (first | refine blk_drewN ?_ _ | refine blk_drew ?_ | refine blk_alloc ?_ _)); refine blk_put (cs := #[.int .u64 (rd l0 (ji16)), .slice none 0 0]) ?_ 1 _ rfl; (with_reducible repeat (first | refine blk_drewN ?_ _ | refine blk_drew ?_ | refine blk_alloc ?_ _)); refine blk_put (cs := #[.int .u64 0, .slice none 0 0]) ?_ 0 _ rfl; (with_reducible repeat (first | refine blk_drewN ?_ _ | refine blk_drew ?_ | refine blk_alloc ?_ _)); exact BK199.out) hb); have n4_ := Aside0.mk (below_step (by repeat (first | (with_reducible first | exact HB.out | apply below_alloc | apply pw_below_drewN | apply below_drew1 | refine below_set ?_ GE190.out | refine below_set ?_ GE197.out | refine below_set ?_ GE199.out) | exact HB.out)) hb); clear HO195; clear BK190; clear BK197; clear BK199; clear HB; have HO195 := n0_; have BK190 := n1_; have BK197 := n2_; have BK199 := n3_; have HB := n4_; clear n0_ n1_ n2_ n3_ n4_; (try clear hb); (try clear hb2); (try clear hk); (try clear hi)))
          go_meet
          case rel => exact ⟨_, ((t200 != 0)), (by first | rfl | (simp; done) | (simp [*]; done)), H', ⟨by have := HJ5.out; first | omega | exact Nat.le_refl _⟩, ⟨by (with_reducible repeat (first | apply Kd.R_alloc | apply Kd.R_drewN | apply Kd.R_drew)); exact HO195.out⟩, ⟨by (with_reducible repeat (first | apply Kd.R_alloc | apply Kd.R_drewN | apply Kd.R_drew)); exact HO195.out⟩, ⟨by (with_reducible repeat (first | refine blk_drewN ?_ _ | refine blk_drew ?_ | refine blk_alloc ?_ _)); exact BK190.out⟩, ⟨by (with_reducible repeat (first | refine blk_drewN ?_ _ | refine blk_drew ?_ | refine blk_alloc ?_ _)); exact BK197.out⟩, ⟨by (with_reducible repeat (first | refine blk_drewN ?_ _ | refine blk_drew ?_ | refine blk_alloc ?_ _)); exact BK199.out⟩, ⟨by repeat (first | (with_reducible first | exact HB.out | apply below_alloc | apply pw_below_drewN | apply below_drew1 | refine below_set ?_ GE190.out | refine below_set ?_ GE197.out | refine below_set ?_ GE199.out) | exact HB.out)⟩⟩
         ·
          rw [if_neg c30] at H
          have c30b0 : (t196 == 0) = false := beq_eq_false_iff_ne.mpr c30
          have c30b1 : (t196 != 0) = true := bne_iff_ne.mpr c30
          (first | rw [c30b0] | (simp only [i64_w, i32_w]; rw [c30b0]) | skip)
          have H' := Aside0.mk H
          clear H
          have hnb38 := NB197_190.out
          have hnc38 := NB190_197.out
          have hnb39 := NB197_199.out
          have hnc39 := NB199_197.out
          have hcz40_0 : w27.cell? ⟨gb197, 0, none⟩ = some (.slice Ao22 t193.length co22) := (blk_cell BK197.out 0).trans rfl
          have hcz40_1 : w27.cell? ⟨gb197, 1, none⟩ = some (.int .i64 t196) := (blk_cell BK197.out 1).trans rfl
          have hfz40_0 := blk_frozen BK197.out 0
          have hfz40_1 := blk_frozen BK197.out 1
          go_wp2
          go_meet
          case rel => exact ⟨_, (true), (by first | rfl | (simp; done) | (simp [*]; done)), H', ⟨by have := HJ5.out; first | omega | exact Nat.le_refl _⟩, ⟨by (with_reducible repeat (first | apply Kd.R_alloc | apply Kd.R_drewN | apply Kd.R_drew)); exact Kd.R_mono (Kd.R_far (p := ⟨gb199, 1, none⟩) (Kd.R_far (p := ⟨gb199, 0, none⟩) (Kd.R_types HO195.out BK199.out (by decide)) (fun _ hk => by first | exact hk.2 | exact hk | exact ⟨hk.2, hk.1⟩ | simp_all) (.int .u64 (rd l0 (ji16)))) (fun _ hk => by first | exact hk.2 | exact hk | exact ⟨hk.2, hk.1⟩ | simp_all) (.slice Ao22 t193.length co22)) (fun _ hk => trivial)⟩, ⟨by (with_reducible repeat (first | apply Kd.R_alloc | apply Kd.R_drewN | apply Kd.R_drew)); exact Kd.R_mono (Kd.R_far (p := ⟨gb199, 1, none⟩) (Kd.R_far (p := ⟨gb199, 0, none⟩) (Kd.R_types HO195.out BK199.out (by decide)) (fun _ hk => by first | exact hk.2 | exact hk | exact ⟨hk.2, hk.1⟩ | simp_all) (.int .u64 (rd l0 (ji16)))) (fun _ hk => by first | exact hk.2 | exact hk | exact ⟨hk.2, hk.1⟩ | simp_all) (.slice Ao22 t193.length co22)) (fun _ hk => trivial)⟩, ⟨by (with_reducible repeat (first | refine blk_drewN ?_ _ | refine blk_drew ?_ | refine blk_alloc ?_ _)); refine blk_far ?_ NB190_199.out _; (with_reducible repeat (first | refine blk_drewN ?_ _ | refine blk_drew ?_ | refine blk_alloc ?_ _)); refine blk_far ?_ NB190_199.out _; (with_reducible repeat (first | refine blk_drewN ?_ _ | refine blk_drew ?_ | refine blk_alloc ?_ _)); exact BK190.out⟩, ⟨by (with_reducible repeat (first | refine blk_drewN ?_ _ | refine blk_drew ?_ | refine blk_alloc ?_ _)); refine blk_far ?_ NB197_199.out _; (with_reducible repeat (first | refine blk_drewN ?_ _ | refine blk_drew ?_ | refine blk_alloc ?_ _)); refine blk_far ?_ NB197_199.out _; (with_reducible repeat (first | refine blk_drewN ?_ _ | refine blk_drew ?_ | refine blk_alloc ?_ _)); exact BK197.out⟩, ⟨by (with_reducible repeat (first | refine blk_drewN ?_ _ | refine blk_drew ?_ | refine blk_alloc ?_ _)); refine blk_put (cs := #[.int .u64 (rd l0 (ji16)), .slice none 0 0]) ?_ 1 _ rfl; (with_reducible repeat (first | refine blk_drewN ?_ _ | refine blk_drew ?_ | refine blk_alloc ?_ _)); refine blk_put (cs := #[.int .u64 0, .slice none 0 0]) ?_ 0 _ rfl; (with_reducible repeat (first | refine blk_drewN ?_ _ | refine blk_drew ?_ | refine blk_alloc ?_ _)); exact BK199.out⟩, ⟨by repeat (first | (with_reducible first | exact HB.out | apply below_alloc | apply pw_below_drewN | apply below_drew1 | refine below_set ?_ GE190.out | refine below_set ?_ GE197.out | refine below_set ?_ GE199.out) | exact HB.out)⟩⟩
        case rest =>
         clear HC19
         try clear c1
         try clear p1
         try clear q1
         try clear hx1
         try clear c2
         try clear p2
         try clear c3
         try clear c5
         try clear p6
         try clear c9
         try clear c9b0
         try clear c9b1
         try clear c9b2
         try clear c10
         try clear c10b0
         try clear c10b1
         try clear c12
         try clear c13
         try clear c13b0
         try clear c13b1
         try clear c13b2
         try clear c15
         try clear c17
         try clear c17b0
         try clear c18
         try clear c18b0
         try clear p19
         try clear q19
         try clear hx19
         try clear c23
         try clear c30
         try clear c30b0
         try clear c30b1
         try clear c31
         try clear c32
         try clear c33
         try clear c34
         try clear c35
         try clear c38
         try clear c39
         try clear hcz11_0
         try clear hcz11_1
         try clear hcz24_0
         try clear hcz24_1
         try clear hcz34_0
         try clear hcz34_1
         try clear hcz36_0
         try clear hcz36_1
         try clear hcz40_0
         try clear hcz40_1
         try clear hfz11_0
         try clear hfz11_1
         try clear hfz24_0
         try clear hfz24_1
         try clear hfz34_0
         try clear hfz34_1
         try clear hfz36_0
         try clear hfz36_1
         try clear hfz40_0
         try clear hfz40_1
         try clear hx198_0
         try clear p198
         try clear p2
         try clear q198
         obtain ⟨kq, x61_18, rfl, HA, HJ18, HO_198000, HO_200001, BK190, BK197, BK199, HB⟩ := hcut
         cases kq with
         | zero => exact absurd HA.out (by simp [parolelaw04_MerkleBinds.j1])
         | succ kj18 =>
          have H := HA.out
          clear HA
          simp only [parolelaw04_MerkleBinds.j1] at H
          by_cases c41 : x61_18 = true
          ·
           subst c41
           have H1 : (none) = some r := by rw [if_pos rfl] at H; exact H
           clear H
           have H := H1
           clear H1
           exact absurd H (by simp)
          ·
           replace c41 := Bool.eq_false_iff.mpr c41
           subst c41
           have H1 : (if a2_0 = (rd l0 (ji16)) then ((paroleref04_Same.f kj18 l2_1 t193).bind fun t201 => (parolelaw04_MerkleBinds.j2 kj18 l0 true ji16 t192 t201 a2_0 l2_1 (rd l0 (ji16)) t193)) else (parolelaw04_MerkleBinds.j2 kj18 l0 true ji16 t192 false a2_0 l2_1 (rd l0 (ji16)) t193)) = some r := by rw [if_neg (show ¬ (false = true) by decide)] at H; exact H
           clear H
           have H := H1
           clear H1
           have HC42 := Aside0.mk H
           clear H
           go_upto_region 12 with (fail)
           go_cut [12] (fun v12 wc => ∃ (kq : Nat) (x12_41 : Bool), v12 = .bool x12_41 ∧ Aside0 (parolelaw04_MerkleBinds.j2 kq l0 true ji16 t192 x12_41 a2_0 l2_1 (rd l0 (ji16)) t193 = some r) ∧ Aside0 (kq ≤ kj18) ∧ Aside0 (Kd.R (Kd.int .u64) 22 wc w.heap.size (fun _ => True) (.slice Ao22 t193.length co22) t193) ∧ Aside0 (Kd.R (Kd.int .u64) 22 wc w.heap.size (fun _ => True) (.slice Ao22 t193.length co22) t193) ∧ Aside0 (wc.heap[gb190]? = some (.cells #[.int .u64 a2_0, (.slice A2_1 l2_1.length c2_1)] 50 (0, 0))) ∧ Aside0 (wc.heap[gb197]? = some (.cells #[(.slice Ao22 t193.length co22), .int .i64 t196] 46 (0, 0))) ∧ Aside0 (wc.heap[gb199]? = some (.cells #[.int .u64 (rd l0 (ji16)), (.slice Ao22 t193.length co22)] 50 (0, 0))) ∧ Aside0 (Below w.heap.size w wc))
           case first =>
            have H := HC42.out
            clear HC42
            by_cases c43 : a2_0 = (rd l0 (ji16))
            ·
             rw [if_pos c43] at H
             have c43b0 : (a2_0 == (rd l0 (ji16))) = true := beq_iff_eq.mpr c43
             have c43b1 : (a2_0 != (rd l0 (ji16))) = false := bne_eq_false_iff_eq.mpr c43
             clear c43
             (first | rw [c43b0] | (simp only [i64_w, i32_w]; rw [c43b0]) | skip)
             replace H := Option.bind_eq_some_iff.mp H
             obtain ⟨t201, A440, H⟩ := H
             replace H : (parolelaw04_MerkleBinds.j2 kj18 l0 true ji16 t192 t201 a2_0 l2_1 (rd l0 (ji16)) t193) = some r := H
             have A44 := Aside0.mk A440
             clear A440
             have H' := Aside0.mk H
             clear H
             have hnb45 := NB190_197.out
             have hnc45 := NB197_190.out
             have hnb46 := NB190_199.out
             have hnc46 := NB199_190.out
             have hcz47_0 : wc.cell? ⟨gb190, 0, none⟩ = some (.int .u64 a2_0) := (blk_cell BK190.out 0).trans rfl
             have hcz47_1 : wc.cell? ⟨gb190, 1, none⟩ = some (.slice A2_1 l2_1.length c2_1) := (blk_cell BK190.out 1).trans rfl
             have hfz47_0 := blk_frozen BK190.out 0
             have hfz47_1 := blk_frozen BK190.out 1
             have hnb48 := NB199_197.out
             have hnc48 := NB197_199.out
             have hcz49_0 : wc.cell? ⟨gb199, 0, none⟩ = some (.int .u64 (rd l0 (ji16))) := (blk_cell BK199.out 0).trans rfl
             have hcz49_1 : wc.cell? ⟨gb199, 1, none⟩ = some (.slice Ao22 t193.length co22) := (blk_cell BK199.out 1).trans rfl
             have hfz49_0 := blk_frozen BK199.out 0
             have hfz49_1 := blk_frozen BK199.out 1
             go_wp2_with (first | (go_at_call 36; (with_reducible refine (paroleref04_Same.calls kj18 _ _ l2_1 _ _ t193 t201 _ ?side1 ?side2 ?side3 ?side4 A44.out).mono ?_); (case side1 => repeat (first | exact (Kd.C_below HR2_1.out HB.out) | (with_reducible refine Kd.C_alloc ?_ _) | (with_reducible refine Kd.C_drewN ?_ _) | (with_reducible refine Kd.C_drew ?_))); (case side2 => exact HC2_1.out); (case side3 => repeat (first | exact (Kd.R_reads' HO_200001.out).2.2 | (with_reducible refine Kd.C_alloc ?_ _) | (with_reducible refine Kd.C_drewN ?_ _) | (with_reducible refine Kd.C_drew ?_))); (case side4 => exact (Kd.R_reads' HO_200001.out).2.1); rintro e w' ⟨rfl, ⟨nd, rfl⟩⟩))
             go_meet
             case rel => exact ⟨_, (t201), (by first | rfl | (simp; done) | (simp [*]; done)), H', ⟨by have := HJ5.out; have := HJ18.out; first | omega | exact Nat.le_refl _⟩, ⟨by (with_reducible repeat (first | apply Kd.R_alloc | apply Kd.R_drewN | apply Kd.R_drew)); exact HO_198000.out⟩, ⟨by (with_reducible repeat (first | apply Kd.R_alloc | apply Kd.R_drewN | apply Kd.R_drew)); exact HO_200001.out⟩, ⟨by (with_reducible repeat (first | refine blk_drewN ?_ _ | refine blk_drew ?_ | refine blk_alloc ?_ _)); exact BK190.out⟩, ⟨by (with_reducible repeat (first | refine blk_drewN ?_ _ | refine blk_drew ?_ | refine blk_alloc ?_ _)); exact BK197.out⟩, ⟨by (with_reducible repeat (first | refine blk_drewN ?_ _ | refine blk_drew ?_ | refine blk_alloc ?_ _)); exact BK199.out⟩, ⟨by repeat (first | (with_reducible first | exact HB.out | apply below_alloc | apply pw_below_drewN | apply below_drew1 | refine below_set ?_ GE190.out | refine below_set ?_ GE197.out | refine below_set ?_ GE199.out) | exact HB.out)⟩⟩
            ·
             rw [if_neg c43] at H
             have c43b0 : (a2_0 == (rd l0 (ji16))) = false := beq_eq_false_iff_ne.mpr c43
             have c43b1 : (a2_0 != (rd l0 (ji16))) = true := bne_iff_ne.mpr c43
             (first | rw [c43b0] | (simp only [i64_w, i32_w]; rw [c43b0]) | skip)
             have H' := Aside0.mk H
             clear H
             have hnb50 := NB190_197.out
             have hnc50 := NB197_190.out
             have hnb51 := NB190_199.out
             have hnc51 := NB199_190.out
             have hcz52_0 : wc.cell? ⟨gb190, 0, none⟩ = some (.int .u64 a2_0) := (blk_cell BK190.out 0).trans rfl
             have hcz52_1 : wc.cell? ⟨gb190, 1, none⟩ = some (.slice A2_1 l2_1.length c2_1) := (blk_cell BK190.out 1).trans rfl
             have hfz52_0 := blk_frozen BK190.out 0
             have hfz52_1 := blk_frozen BK190.out 1
             have hnb53 := NB199_197.out
             have hnc53 := NB197_199.out
             have hcz54_0 : wc.cell? ⟨gb199, 0, none⟩ = some (.int .u64 (rd l0 (ji16))) := (blk_cell BK199.out 0).trans rfl
             have hcz54_1 : wc.cell? ⟨gb199, 1, none⟩ = some (.slice Ao22 t193.length co22) := (blk_cell BK199.out 1).trans rfl
             have hfz54_0 := blk_frozen BK199.out 0
             have hfz54_1 := blk_frozen BK199.out 1
             go_wp2
             go_meet
             case rel => exact ⟨_, (false), (by first | rfl | (simp; done) | (simp [*]; done)), H', ⟨by have := HJ5.out; have := HJ18.out; first | omega | exact Nat.le_refl _⟩, ⟨by (with_reducible repeat (first | apply Kd.R_alloc | apply Kd.R_drewN | apply Kd.R_drew)); exact HO_198000.out⟩, ⟨by (with_reducible repeat (first | apply Kd.R_alloc | apply Kd.R_drewN | apply Kd.R_drew)); exact HO_200001.out⟩, ⟨by (with_reducible repeat (first | refine blk_drewN ?_ _ | refine blk_drew ?_ | refine blk_alloc ?_ _)); exact BK190.out⟩, ⟨by (with_reducible repeat (first | refine blk_drewN ?_ _ | refine blk_drew ?_ | refine blk_alloc ?_ _)); exact BK197.out⟩, ⟨by (with_reducible repeat (first | refine blk_drewN ?_ _ | refine blk_drew ?_ | refine blk_alloc ?_ _)); exact BK199.out⟩, ⟨by repeat (first | (with_reducible first | exact HB.out | apply below_alloc | apply pw_below_drewN | apply below_drew1 | refine below_set ?_ GE190.out | refine below_set ?_ GE197.out | refine below_set ?_ GE199.out) | exact HB.out)⟩⟩
           case rest =>
            clear HC42
            try clear c1
            try clear p1
            try clear q1
            try clear hx1
            try clear c2
            try clear p2
            try clear c3
            try clear c4
            try clear c5
            try clear p6
            try clear c9
            try clear c9b0
            try clear c9b1
            try clear c9b2
            try clear c10
            try clear c10b0
            try clear c10b1
            try clear c12
            try clear c13
            try clear c13b0
            try clear c13b1
            try clear c13b2
            try clear c15
            try clear c17
            try clear c17b0
            try clear c18
            try clear c18b0
            try clear p19
            try clear q19
            try clear hx19
            try clear c23
            try clear c30
            try clear c30b0
            try clear c30b1
            try clear c31
            try clear c32
            try clear c33
            try clear c34
            try clear c35
            try clear c38
            try clear c39
            try clear c41
            try clear c43
            try clear c43b0
            try clear c43b1
            try clear c45
            try clear c46
            try clear c48
            try clear c50
            try clear c51
            try clear c53
            try clear hcz11_0
            try clear hcz11_1
            try clear hcz24_0
            try clear hcz24_1
            try clear hcz34_0
            try clear hcz34_1
            try clear hcz36_0
            try clear hcz36_1
            try clear hcz40_0
            try clear hcz40_1
            try clear hcz47_0
            try clear hcz47_1
            try clear hcz49_0
            try clear hcz49_1
            try clear hcz52_0
            try clear hcz52_1
            try clear hcz54_0
            try clear hcz54_1
            try clear hfz11_0
            try clear hfz11_1
            try clear hfz24_0
            try clear hfz24_1
            try clear hfz34_0
            try clear hfz34_1
            try clear hfz36_0
            try clear hfz36_1
            try clear hfz40_0
            try clear hfz40_1
            try clear hfz47_0
            try clear hfz47_1
            try clear hfz49_0
            try clear hfz49_1
            try clear hfz52_0
            try clear hfz52_1
            try clear hfz54_0
            try clear hfz54_1
            try clear hx198_0
            try clear p1
            try clear p19
            try clear p198
            try clear p2
            try clear p6
            try clear q1
            try clear q19
            try clear q198
            obtain ⟨kq, x12_41, rfl, HA, HJ41, HO_198000, HO_200001, BK190, BK197, BK199, HB⟩ := hcut
            cases kq with
            | zero => exact absurd HA.out (by simp [parolelaw04_MerkleBinds.j2])
            | succ kj41 =>
             have H := HA.out
             clear HA
             simp only [parolelaw04_MerkleBinds.j2] at H
             replace H := Option.bind_eq_some_iff.mp H
             obtain ⟨⟨t202, t203, t204, t205, t206⟩, A550, H⟩ := H
             replace H : (if t206 = true then (if t202 = t204 then (if t203 = t205 then (none) else ((digest_Join.f t202 t203).bind fun t208 => ((digest_Join.f t204 t205).bind fun t209 => (if t208 = t209 then ((parolelaw04_check.f t192 (l0.length : Int) ji16 a2_0 l2_1).bind fun t210 => (if t210 = 0 then (if x12_41 = true then (none) else (some true)) else (if x12_41 = true then (none) else (some true)))) else (none))))) else ((digest_Join.f t202 t203).bind fun t211 => ((digest_Join.f t204 t205).bind fun t212 => (if t211 = t212 then ((parolelaw04_check.f t192 (l0.length : Int) ji16 a2_0 l2_1).bind fun t213 => (if t213 = 0 then (if x12_41 = true then (none) else (some true)) else (if x12_41 = true then (none) else (some true)))) else (none))))) else ((parolelaw04_check.f t192 (l0.length : Int) ji16 a2_0 l2_1).bind fun t214 => (if t214 = 0 then (if x12_41 = true then (some true) else (none)) else (if x12_41 = true then (some true) else (some true))))) = some r := H
             have A55 := Aside0.mk A550
             clear A550
             by_cases c56 : t206 = true
             ·
              subst c56
              have H1 : (if t202 = t204 then (if t203 = t205 then (none) else ((digest_Join.f t202 t203).bind fun t208 => ((digest_Join.f t204 t205).bind fun t209 => (if t208 = t209 then ((parolelaw04_check.f t192 (l0.length : Int) ji16 a2_0 l2_1).bind fun t210 => (if t210 = 0 then (if x12_41 = true then (none) else (some true)) else (if x12_41 = true then (none) else (some true)))) else (none))))) else ((digest_Join.f t202 t203).bind fun t211 => ((digest_Join.f t204 t205).bind fun t212 => (if t211 = t212 then ((parolelaw04_check.f t192 (l0.length : Int) ji16 a2_0 l2_1).bind fun t213 => (if t213 = 0 then (if x12_41 = true then (none) else (some true)) else (if x12_41 = true then (none) else (some true)))) else (none))))) = some r := by rw [if_pos rfl] at H; exact H
              clear H
              have H := H1
              clear H1
              by_cases c57 : t202 = t204
              ·
               rw [if_pos c57] at H
               have c57b0 : (t202 == t204) = true := beq_iff_eq.mpr c57
               have c57b1 : (t202 != t204) = false := bne_eq_false_iff_eq.mpr c57
               clear c57
               by_cases c58 : t203 = t205
               ·
                rw [if_pos c58] at H
                have c58b0 : (t203 == t205) = true := beq_iff_eq.mpr c58
                have c58b1 : (t203 != t205) = false := bne_eq_false_iff_eq.mpr c58
                clear c58
                exact absurd H (by simp)
               ·
                rw [if_neg c58] at H
                have c58b0 : (t203 == t205) = false := beq_eq_false_iff_ne.mpr c58
                have c58b1 : (t203 != t205) = true := bne_iff_ne.mpr c58
                replace H := Option.bind_eq_some_iff.mp H
                obtain ⟨t208, A590, H⟩ := H
                replace H : ((digest_Join.f t204 t205).bind fun t209 => (if t208 = t209 then ((parolelaw04_check.f t192 (l0.length : Int) ji16 a2_0 l2_1).bind fun t210 => (if t210 = 0 then (if x12_41 = true then (none) else (some true)) else (if x12_41 = true then (none) else (some true)))) else (none))) = some r := H
                have A59 := Aside0.mk A590
                clear A590
                replace H := Option.bind_eq_some_iff.mp H
                obtain ⟨t209, A600, H⟩ := H
                replace H : (if t208 = t209 then ((parolelaw04_check.f t192 (l0.length : Int) ji16 a2_0 l2_1).bind fun t210 => (if t210 = 0 then (if x12_41 = true then (none) else (some true)) else (if x12_41 = true then (none) else (some true)))) else (none)) = some r := H
                have A60 := Aside0.mk A600
                clear A600
                by_cases c61 : t208 = t209
                ·
                 rw [if_pos c61] at H
                 have c61b0 : (t208 == t209) = true := beq_iff_eq.mpr c61
                 have c61b1 : (t208 != t209) = false := bne_eq_false_iff_eq.mpr c61
                 clear c61
                 replace H := Option.bind_eq_some_iff.mp H
                 obtain ⟨t210, A620, H⟩ := H
                 replace H : (if t210 = 0 then (if x12_41 = true then (none) else (some true)) else (if x12_41 = true then (none) else (some true))) = some r := H
                 have A62 := Aside0.mk A620
                 clear A620
                 by_cases c63 : t210 = 0
                 ·
                  rw [if_pos c63] at H
                  have c63b0 : (t210 == 0) = true := beq_iff_eq.mpr c63
                  have c63b1 : (t210 != 0) = false := bne_eq_false_iff_eq.mpr c63
                  clear c63
                  by_cases c64 : x12_41 = true
                  ·
                   subst c64
                   have H1 : (none) = some r := by rw [if_pos rfl] at H; exact H
                   clear H
                   have H := H1
                   clear H1
                   exact absurd H (by simp)
                  ·
                   replace c64 := Bool.eq_false_iff.mpr c64
                   subst c64
                   have H1 : (some true) = some r := by rw [if_neg (show ¬ (false = true) by decide)] at H; exact H
                   clear H
                   have H := H1
                   clear H1
                   obtain rfl := Option.some.inj H
                   have hnb65 := NB199_190.out
                   have hnc65 := NB190_199.out
                   have hnb66 := NB199_197.out
                   have hnc66 := NB197_199.out
                   have hcz67_0 : wc.cell? ⟨gb199, 0, none⟩ = some (.int .u64 (rd l0 (ji16))) := (blk_cell BK199.out 0).trans rfl
                   have hcz67_1 : wc.cell? ⟨gb199, 1, none⟩ = some (.slice Ao22 t193.length co22) := (blk_cell BK199.out 1).trans rfl
                   have hfz67_0 := blk_frozen BK199.out 0
                   have hfz67_1 := blk_frozen BK199.out 1
                   have hnb68 := NB190_197.out
                   have hnc68 := NB197_190.out
                   have hcz69_0 : wc.cell? ⟨gb190, 0, none⟩ = some (.int .u64 a2_0) := (blk_cell BK190.out 0).trans rfl
                   have hcz69_1 : wc.cell? ⟨gb190, 1, none⟩ = some (.slice A2_1 l2_1.length c2_1) := (blk_cell BK190.out 1).trans rfl
                   have hfz69_0 := blk_frozen BK190.out 0
                   have hfz69_1 := blk_frozen BK190.out 1
                   try go_wp2_with (first | ((with_reducible refine gate_callee (f := 40) rfl ?_); refine goesL_ (some 80) rfl rfl Try.func40 (by kernel_rfl) rfl #[.int .i64 (l0.length : Int), .int .i64 ji16, .agg #[.int .u64 (rd l0 (ji16)), .slice Ao22 t193.length co22], .agg #[.int .u64 a2_0, .slice A2_1 l2_1.length c2_1]] rfl (by (try simp only [map_toArray, map_cons, map_nil]); first | done | (simp only [hji16]; rfl) | rfl) ?_; (with_reducible refine (merkle_Collide.calls kj41 (l0.length : Int) ji16 (rd l0 (ji16)) _ _ t193 a2_0 _ _ l2_1 t202 t203 t204 t205 true _ ?side1 ?side2 ?side3 ?side4 A55.out).mono ?_); (case side1 => repeat (first | exact (Kd.R_reads' HO_200001.out).2.2 | (with_reducible refine Kd.C_alloc ?_ _) | (with_reducible refine Kd.C_drewN ?_ _) | (with_reducible refine Kd.C_drew ?_))); (case side2 => exact (Kd.R_reads' HO_200001.out).2.1); (case side3 => repeat (first | exact (Kd.C_below HR2_1.out HB.out) | (with_reducible refine Kd.C_alloc ?_ _) | (with_reducible refine Kd.C_drewN ?_ _) | (with_reducible refine Kd.C_drew ?_))); (case side4 => exact HC2_1.out); rintro e w70 ⟨rfl, hb⟩; refine ⟨_, rfl, ?_⟩; have n0_ := Aside0.mk (Kd.R_below (by (with_reducible repeat (first | apply Kd.R_alloc | apply Kd.R_drewN | apply Kd.R_drew)); exact HO_198000.out) hb); have n1_ := Aside0.mk (Kd.R_below (by (with_reducible repeat (first | apply Kd.R_alloc | apply Kd.R_drewN | apply Kd.R_drew)); exact HO_200001.out) hb); have n2_ := Aside0.mk (blk_below (g := gb190) (o := .cells #[.int .u64 a2_0, .slice A2_1 l2_1.length c2_1] 50 (0, 0)) (by (with_reducible repeat (first | refine blk_drewN ?_ _ | refine blk_drew ?_ | refine blk_alloc ?_ _)); exact BK190.out) hb); have n3_ := Aside0.mk (blk_below (g := gb197) (o := .cells #[.slice Ao22 t193.length co22, .int .i64 t196] 46 (0, 0)) (by (with_reducible repeat (first | refine blk_drewN ?_ _ | refine blk_drew ?_ | refine blk_alloc ?_ _)); exact BK197.out) hb); have n4_ := Aside0.mk (blk_below (g := gb199) (o := .cells #[.int .u64 (rd l0 (ji16)), .slice Ao22 t193.length co22] 50 (0, 0)) (by (with_reducible repeat (first | refine blk_drewN ?_ _ | refine blk_drew ?_ | refine blk_alloc ?_ _)); exact BK199.out) hb); have n5_ := Aside0.mk (below_step (by repeat (first | (with_reducible first | exact HB.out | apply below_alloc | apply pw_below_drewN | apply below_drew1 | refine below_set ?_ GE190.out | refine below_set ?_ GE197.out | refine below_set ?_ GE199.out) | exact HB.out)) hb); clear HO_198000; clear HO_200001; clear BK190; clear BK197; clear BK199; clear HB; have HO_198000 := n0_; have HO_200001 := n1_; have BK190 := n2_; have BK197 := n3_; have BK199 := n4_; have HB := n5_; clear n0_ n1_ n2_ n3_ n4_ n5_; (try clear hb); (try clear hb2); (try clear hk); (try clear hi)) | ((with_reducible refine gate_dst (N := 13) rfl ?_); (try (refine gate_guard (by rfl) ?_; dsimp only)); refine box_event ?hg (N := 13) ?hd (cs := #[.int .u64 0, .int .u64 0, .int .u64 0, .int .u64 0]) (t := 60) ?hr ?_; (case hd => rfl); (case hg => rfl); (case hr => first | (go_simp; done) | (go_simp; rfl)); intro gb207 hg w71 hbox hb; have n0_ := Aside0.mk (Kd.R_below (by (with_reducible repeat (first | apply Kd.R_alloc | apply Kd.R_drewN | apply Kd.R_drew)); exact HO_198000.out) hb); have n1_ := Aside0.mk (Kd.R_below (by (with_reducible repeat (first | apply Kd.R_alloc | apply Kd.R_drewN | apply Kd.R_drew)); exact HO_200001.out) hb); have n2_ := Aside0.mk (blk_below (g := gb190) (o := .cells #[.int .u64 a2_0, .slice A2_1 l2_1.length c2_1] 50 (0, 0)) (by (with_reducible repeat (first | refine blk_drewN ?_ _ | refine blk_drew ?_ | refine blk_alloc ?_ _)); exact BK190.out) hb); have n3_ := Aside0.mk (blk_below (g := gb197) (o := .cells #[.slice Ao22 t193.length co22, .int .i64 t196] 46 (0, 0)) (by (with_reducible repeat (first | refine blk_drewN ?_ _ | refine blk_drew ?_ | refine blk_alloc ?_ _)); exact BK197.out) hb); have n4_ := Aside0.mk (blk_below (g := gb199) (o := .cells #[.int .u64 (rd l0 (ji16)), .slice Ao22 t193.length co22] 50 (0, 0)) (by (with_reducible repeat (first | refine blk_drewN ?_ _ | refine blk_drew ?_ | refine blk_alloc ?_ _)); exact BK199.out) hb); have n5_ := Aside0.mk (below_step (by repeat (first | (with_reducible first | exact HB.out | apply below_alloc | apply pw_below_drewN | apply below_drew1 | refine below_set ?_ GE190.out | refine below_set ?_ GE197.out | refine below_set ?_ GE199.out) | exact HB.out)) hb); have n6_ := Aside0.mk (hbox); have n7_ := Aside0.mk ((by rw [hg]; exact (below_size (by repeat (first | (with_reducible first | exact HB.out | apply below_alloc | apply pw_below_drewN | apply below_drew1 | refine below_set ?_ GE190.out | refine below_set ?_ GE197.out | refine below_set ?_ GE199.out) | exact HB.out))) : w.heap.size ≤ gb207)); have n8_ := Aside0.mk ((by rw [hg]; exact (below_size (by repeat (first | (with_reducible first | exact HB.out | apply below_alloc | apply pw_below_drewN | apply below_drew1 | refine below_set ?_ GE190.out | refine below_set ?_ GE197.out | refine below_set ?_ GE199.out) | exact HB.out))) : w.heap.size ≤ gb207)); have n9_ := Aside0.mk ((by rw [hg]; exact Nat.ne_of_lt (blk_lt (g := gb190) (o := .cells #[.int .u64 a2_0, .slice A2_1 l2_1.length c2_1] 50 (0, 0)) (by (with_reducible repeat (first | refine blk_drewN ?_ _ | refine blk_drew ?_ | refine blk_alloc ?_ _)); exact BK190.out)) : gb190 ≠ gb207)); have n10_ := Aside0.mk ((by rw [hg]; exact Nat.ne_of_gt (blk_lt (g := gb190) (o := .cells #[.int .u64 a2_0, .slice A2_1 l2_1.length c2_1] 50 (0, 0)) (by (with_reducible repeat (first | refine blk_drewN ?_ _ | refine blk_drew ?_ | refine blk_alloc ?_ _)); exact BK190.out)) : gb207 ≠ gb190)); have n11_ := Aside0.mk ((by rw [hg]; exact Nat.ne_of_lt (blk_lt (g := gb197) (o := .cells #[.slice Ao22 t193.length co22, .int .i64 t196] 46 (0, 0)) (by (with_reducible repeat (first | refine blk_drewN ?_ _ | refine blk_drew ?_ | refine blk_alloc ?_ _)); exact BK197.out)) : gb197 ≠ gb207)); have n12_ := Aside0.mk ((by rw [hg]; exact Nat.ne_of_gt (blk_lt (g := gb197) (o := .cells #[.slice Ao22 t193.length co22, .int .i64 t196] 46 (0, 0)) (by (with_reducible repeat (first | refine blk_drewN ?_ _ | refine blk_drew ?_ | refine blk_alloc ?_ _)); exact BK197.out)) : gb207 ≠ gb197)); have n13_ := Aside0.mk ((by rw [hg]; exact Nat.ne_of_lt (blk_lt (g := gb199) (o := .cells #[.int .u64 (rd l0 (ji16)), .slice Ao22 t193.length co22] 50 (0, 0)) (by (with_reducible repeat (first | refine blk_drewN ?_ _ | refine blk_drew ?_ | refine blk_alloc ?_ _)); exact BK199.out)) : gb199 ≠ gb207)); have n14_ := Aside0.mk ((by rw [hg]; exact Nat.ne_of_gt (blk_lt (g := gb199) (o := .cells #[.int .u64 (rd l0 (ji16)), .slice Ao22 t193.length co22] 50 (0, 0)) (by (with_reducible repeat (first | refine blk_drewN ?_ _ | refine blk_drew ?_ | refine blk_alloc ?_ _)); exact BK199.out)) : gb207 ≠ gb199)); clear HO_198000; clear HO_200001; clear BK190; clear BK197; clear BK199; clear HB; have HO_198000 := n0_; have HO_200001 := n1_; have BK190 := n2_; have BK197 := n3_; have BK199 := n4_; have HB := n5_; have BK207 := n6_; have GW207 := n7_; have GE207 := n8_; have NB190_207 := n9_; have NB207_190 := n10_; have NB197_207 := n11_; have NB207_197 := n12_; have NB199_207 := n13_; have NB207_199 := n14_; clear n0_ n1_ n2_ n3_ n4_ n5_ n6_ n7_ n8_ n9_ n10_ n11_ n12_ n13_ n14_; clear hb hbox hg; have hnb72 := NB207_190.out; have hnc72 := NB190_207.out; have hnb73 := NB207_197.out; have hnc73 := NB197_207.out; have hnb74 := NB207_199.out; have hnc74 := NB199_207.out; have hcz75_0 : w71.cell? ⟨gb207, 0, none⟩ = some (.int .u64 0) := (blk_cell BK207.out 0).trans rfl; have hcz75_1 : w71.cell? ⟨gb207, 1, none⟩ = some (.int .u64 0) := (blk_cell BK207.out 1).trans rfl; have hcz75_2 : w71.cell? ⟨gb207, 2, none⟩ = some (.int .u64 0) := (blk_cell BK207.out 2).trans rfl; have hcz75_3 : w71.cell? ⟨gb207, 3, none⟩ = some (.int .u64 0) := (blk_cell BK207.out 3).trans rfl; have hfz75_0 := blk_frozen BK207.out 0; have hfz75_1 := blk_frozen BK207.out 1; have hfz75_2 := blk_frozen BK207.out 2; have hfz75_3 := blk_frozen BK207.out 3))
                   have n0_ : Aside0 (Kd.R (Kd.int .u64) 22 ((((w71.setCell ⟨gb207, 0, none⟩ (.int .u64 t202)).setCell ⟨gb207, 1, none⟩ (.int .u64 t203)).setCell ⟨gb207, 2, none⟩ (.int .u64 t204)).setCell ⟨gb207, 3, none⟩ (.int .u64 t205)) w.heap.size (fun _ => True) (.slice Ao22 t193.length co22) t193) := ⟨by (with_reducible repeat (first | apply Kd.R_alloc | apply Kd.R_drewN | apply Kd.R_drew)); exact Kd.R_mono (Kd.R_far (p := ⟨gb207, 3, none⟩) (Kd.R_far (p := ⟨gb207, 2, none⟩) (Kd.R_far (p := ⟨gb207, 1, none⟩) (Kd.R_far (p := ⟨gb207, 0, none⟩) (Kd.R_types HO_198000.out BK207.out (by decide)) (fun _ hk => by first | exact hk.2 | exact hk | exact ⟨hk.2, hk.1⟩ | simp_all) (.int .u64 t202)) (fun _ hk => by first | exact hk.2 | exact hk | exact ⟨hk.2, hk.1⟩ | simp_all) (.int .u64 t203)) (fun _ hk => by first | exact hk.2 | exact hk | exact ⟨hk.2, hk.1⟩ | simp_all) (.int .u64 t204)) (fun _ hk => by first | exact hk.2 | exact hk | exact ⟨hk.2, hk.1⟩ | simp_all) (.int .u64 t205)) (fun _ hk => trivial)⟩
                   have n1_ : Aside0 (Kd.R (Kd.int .u64) 22 ((((w71.setCell ⟨gb207, 0, none⟩ (.int .u64 t202)).setCell ⟨gb207, 1, none⟩ (.int .u64 t203)).setCell ⟨gb207, 2, none⟩ (.int .u64 t204)).setCell ⟨gb207, 3, none⟩ (.int .u64 t205)) w.heap.size (fun _ => True) (.slice Ao22 t193.length co22) t193) := ⟨by (with_reducible repeat (first | apply Kd.R_alloc | apply Kd.R_drewN | apply Kd.R_drew)); exact Kd.R_mono (Kd.R_far (p := ⟨gb207, 3, none⟩) (Kd.R_far (p := ⟨gb207, 2, none⟩) (Kd.R_far (p := ⟨gb207, 1, none⟩) (Kd.R_far (p := ⟨gb207, 0, none⟩) (Kd.R_types HO_200001.out BK207.out (by decide)) (fun _ hk => by first | exact hk.2 | exact hk | exact ⟨hk.2, hk.1⟩ | simp_all) (.int .u64 t202)) (fun _ hk => by first | exact hk.2 | exact hk | exact ⟨hk.2, hk.1⟩ | simp_all) (.int .u64 t203)) (fun _ hk => by first | exact hk.2 | exact hk | exact ⟨hk.2, hk.1⟩ | simp_all) (.int .u64 t204)) (fun _ hk => by first | exact hk.2 | exact hk | exact ⟨hk.2, hk.1⟩ | simp_all) (.int .u64 t205)) (fun _ hk => trivial)⟩
                   have n2_ : Aside0 (((((w71.setCell ⟨gb207, 0, none⟩ (.int .u64 t202)).setCell ⟨gb207, 1, none⟩ (.int .u64 t203)).setCell ⟨gb207, 2, none⟩ (.int .u64 t204)).setCell ⟨gb207, 3, none⟩ (.int .u64 t205)).heap[gb190]? = some (.cells #[.int .u64 a2_0, .slice A2_1 l2_1.length c2_1] 50 (0, 0))) := ⟨by (with_reducible repeat (first | refine blk_drewN ?_ _ | refine blk_drew ?_ | refine blk_alloc ?_ _)); refine blk_far ?_ NB190_207.out _; (with_reducible repeat (first | refine blk_drewN ?_ _ | refine blk_drew ?_ | refine blk_alloc ?_ _)); refine blk_far ?_ NB190_207.out _; (with_reducible repeat (first | refine blk_drewN ?_ _ | refine blk_drew ?_ | refine blk_alloc ?_ _)); refine blk_far ?_ NB190_207.out _; (with_reducible repeat (first | refine blk_drewN ?_ _ | refine blk_drew ?_ | refine blk_alloc ?_ _)); refine blk_far ?_ NB190_207.out _; (with_reducible repeat (first | refine blk_drewN ?_ _ | refine blk_drew ?_ | refine blk_alloc ?_ _)); exact BK190.out⟩
                   have n3_ : Aside0 (((((w71.setCell ⟨gb207, 0, none⟩ (.int .u64 t202)).setCell ⟨gb207, 1, none⟩ (.int .u64 t203)).setCell ⟨gb207, 2, none⟩ (.int .u64 t204)).setCell ⟨gb207, 3, none⟩ (.int .u64 t205)).heap[gb197]? = some (.cells #[.slice Ao22 t193.length co22, .int .i64 t196] 46 (0, 0))) := ⟨by (with_reducible repeat (first | refine blk_drewN ?_ _ | refine blk_drew ?_ | refine blk_alloc ?_ _)); refine blk_far ?_ NB197_207.out _; (with_reducible repeat (first | refine blk_drewN ?_ _ | refine blk_drew ?_ | refine blk_alloc ?_ _)); refine blk_far ?_ NB197_207.out _; (with_reducible repeat (first | refine blk_drewN ?_ _ | refine blk_drew ?_ | refine blk_alloc ?_ _)); refine blk_far ?_ NB197_207.out _; (with_reducible repeat (first | refine blk_drewN ?_ _ | refine blk_drew ?_ | refine blk_alloc ?_ _)); refine blk_far ?_ NB197_207.out _; (with_reducible repeat (first | refine blk_drewN ?_ _ | refine blk_drew ?_ | refine blk_alloc ?_ _)); exact BK197.out⟩
                   have n4_ : Aside0 (((((w71.setCell ⟨gb207, 0, none⟩ (.int .u64 t202)).setCell ⟨gb207, 1, none⟩ (.int .u64 t203)).setCell ⟨gb207, 2, none⟩ (.int .u64 t204)).setCell ⟨gb207, 3, none⟩ (.int .u64 t205)).heap[gb199]? = some (.cells #[.int .u64 (rd l0 (ji16)), .slice Ao22 t193.length co22] 50 (0, 0))) := ⟨by (with_reducible repeat (first | refine blk_drewN ?_ _ | refine blk_drew ?_ | refine blk_alloc ?_ _)); refine blk_far ?_ NB199_207.out _; (with_reducible repeat (first | refine blk_drewN ?_ _ | refine blk_drew ?_ | refine blk_alloc ?_ _)); refine blk_far ?_ NB199_207.out _; (with_reducible repeat (first | refine blk_drewN ?_ _ | refine blk_drew ?_ | refine blk_alloc ?_ _)); refine blk_far ?_ NB199_207.out _; (with_reducible repeat (first | refine blk_drewN ?_ _ | refine blk_drew ?_ | refine blk_alloc ?_ _)); refine blk_far ?_ NB199_207.out _; (with_reducible repeat (first | refine blk_drewN ?_ _ | refine blk_drew ?_ | refine blk_alloc ?_ _)); exact BK199.out⟩
                   have n5_ : Aside0 (((((w71.setCell ⟨gb207, 0, none⟩ (.int .u64 t202)).setCell ⟨gb207, 1, none⟩ (.int .u64 t203)).setCell ⟨gb207, 2, none⟩ (.int .u64 t204)).setCell ⟨gb207, 3, none⟩ (.int .u64 t205)).heap[gb207]? = some (.cells #[.int .u64 t202, .int .u64 t203, .int .u64 t204, .int .u64 t205] 60 (0, 0))) := ⟨by (with_reducible repeat (first | refine blk_drewN ?_ _ | refine blk_drew ?_ | refine blk_alloc ?_ _)); refine blk_put (cs := #[.int .u64 t202, .int .u64 t203, .int .u64 t204, .int .u64 0]) ?_ 3 _ rfl; (with_reducible repeat (first | refine blk_drewN ?_ _ | refine blk_drew ?_ | refine blk_alloc ?_ _)); refine blk_put (cs := #[.int .u64 t202, .int .u64 t203, .int .u64 0, .int .u64 0]) ?_ 2 _ rfl; (with_reducible repeat (first | refine blk_drewN ?_ _ | refine blk_drew ?_ | refine blk_alloc ?_ _)); refine blk_put (cs := #[.int .u64 t202, .int .u64 0, .int .u64 0, .int .u64 0]) ?_ 1 _ rfl; (with_reducible repeat (first | refine blk_drewN ?_ _ | refine blk_drew ?_ | refine blk_alloc ?_ _)); refine blk_put (cs := #[.int .u64 0, .int .u64 0, .int .u64 0, .int .u64 0]) ?_ 0 _ rfl; (with_reducible repeat (first | refine blk_drewN ?_ _ | refine blk_drew ?_ | refine blk_alloc ?_ _)); exact BK207.out⟩
                   have n6_ : Aside0 (Below w.heap.size w ((((w71.setCell ⟨gb207, 0, none⟩ (.int .u64 t202)).setCell ⟨gb207, 1, none⟩ (.int .u64 t203)).setCell ⟨gb207, 2, none⟩ (.int .u64 t204)).setCell ⟨gb207, 3, none⟩ (.int .u64 t205))) := ⟨by repeat (first | (with_reducible first | exact HB.out | apply below_alloc | apply pw_below_drewN | apply below_drew1 | refine below_set ?_ GE190.out | refine below_set ?_ GE197.out | refine below_set ?_ GE199.out | refine below_set ?_ GE207.out) | exact HB.out)⟩
                   (try clear HO_198000)
                   (try clear HO_200001)
                   (try clear BK190)
                   (try clear BK197)
                   (try clear BK199)
                   (try clear BK207)
                   (try clear HB)
                   generalize ((((w71.setCell ⟨gb207, 0, none⟩ (.int .u64 t202)).setCell ⟨gb207, 1, none⟩ (.int .u64 t203)).setCell ⟨gb207, 2, none⟩ (.int .u64 t204)).setCell ⟨gb207, 3, none⟩ (.int .u64 t205)) = w76 at n0_ n1_ n2_ n3_ n4_ n5_ n6_ ⊢
                   have HO_198000 := n0_
                   have HO_200001 := n1_
                   have BK190 := n2_
                   have BK197 := n3_
                   have BK199 := n4_
                   have BK207 := n5_
                   have HB := n6_
                   clear n0_ n1_ n2_ n3_ n4_ n5_ n6_
                   have n0_ := Aside0.mk (Kd.R_drew HO_198000.out)
                   have n1_ := Aside0.mk (Kd.R_drew HO_200001.out)
                   have n2_ := Aside0.mk (blk_drew BK190.out)
                   have n3_ := Aside0.mk (blk_drew BK197.out)
                   have n4_ := Aside0.mk (blk_drew BK199.out)
                   have n5_ := Aside0.mk (blk_drew BK207.out)
                   have n6_ := Aside0.mk (below_drew1 HB.out)
                   clear HO_198000
                   clear HO_200001
                   clear BK190
                   clear BK197
                   clear BK199
                   clear BK207
                   clear HB
                   have HO_198000 := n0_
                   have HO_200001 := n1_
                   have BK190 := n2_
                   have BK197 := n3_
                   have BK199 := n4_
                   have BK207 := n5_
                   have HB := n6_
                   clear n0_ n1_ n2_ n3_ n4_ n5_ n6_
                   refine start_ (n := 25) (S := fun w' => w'.cell? ⟨gb207, 0, none⟩ = some (.int .u64 t202) ∧ w'.cell? ⟨gb207, 1, none⟩ = some (.int .u64 t203) ∧ w'.cell? ⟨gb207, 2, none⟩ = some (.int .u64 t204) ∧ w'.cell? ⟨gb207, 3, none⟩ = some (.int .u64 t205)) (ds := []) #[false, false, false, false, false, false, false, false, false, false, false, false, false, false, false, false, false, false, false, false, false, false, false, false, false] (by kernel_rfl) rfl rfl ⟨(blk_cell BK207.out 0).trans rfl, (blk_cell BK207.out 1).trans rfl, (blk_cell BK207.out 2).trans rfl, (blk_cell BK207.out 3).trans rfl⟩ (fun hHeld => ?_); refine with_tabW parolelaw04_MerkleBinds.tab14 parolelaw04_MerkleBinds.bits14 (fun HT_ HW_ => ?_)
                   generalize w76.drew = w77 at HO_198000 HO_200001 BK190 BK197 BK199 BK207 HB hHeld ⊢
                   refine pure_ (i := 0) (N := some 83) (v := ?_) (a' := ?_) (bl_15 25 1) rfl rfl (any_of HT_.out (by kernel_rfl)) (fun _ _ _ h => h) (Or.inl ⟨by rfl, ?_⟩) ?_ ?_; rotate_left; (· intro w'; go_simp; with_reducible rfl); rotate_left; (· simp only [Act.put, setIfInBounds_toArray, set_cons_zero, set_cons_succ, i64_w, i32_w]; rfl)
                   refine pure_ (i := 1) (N := some 84) (v := ?_) (a' := ?_) (bl_15 25 3) rfl rfl (any_of HT_.out (by kernel_rfl)) (fun _ _ _ h => h) (Or.inl ⟨by rfl, ?_⟩) ?_ ?_; rotate_left; (· intro w'; go_simp; with_reducible rfl); rotate_left; (· simp only [Act.put, setIfInBounds_toArray, set_cons_zero, set_cons_succ, i64_w, i32_w]; rfl)
                   refine pure_ (i := 2) (N := some 85) (v := ?_) (a' := ?_) (bl_15 25 7) rfl rfl (any_of HT_.out (by kernel_rfl)) (fun _ _ _ h => h) (Or.inl ⟨by rfl, ?_⟩) ?_ ?_; rotate_left; (· intro w'; go_simp; with_reducible rfl); rotate_left; (· simp only [Act.put, setIfInBounds_toArray, set_cons_zero, set_cons_succ, i64_w, i32_w]; rfl)
                   refine pure_ (i := 4) (N := some 87) (v := ?_) (a' := ?_) (bl_15 25 23) rfl rfl (any_of HT_.out (by kernel_rfl)) (fun _ _ _ h => h) (Or.inl ⟨by rfl, ?_⟩) ?_ ?_; rotate_left; (· intro w'; go_simp; with_reducible rfl); rotate_left; (· simp only [Act.put, setIfInBounds_toArray, set_cons_zero, set_cons_succ, i64_w, i32_w]; rfl)
                   refine take_ (i := 3) (N := some 86) (v := ?_) (a' := ?_) (bl_15 25 31) rfl rfl (take_ofW HT_.out HW_.out (by kernel_rfl)) (fun _ _ _ h => h) (Or.inl ⟨by rfl, ?_⟩) hHeld ?_ ?_; rotate_left; (· rintro w' ⟨s0, s1, s2, s3⟩; go_simp; with_reducible rfl); rotate_left; (· simp only [Act.put, setIfInBounds_toArray, set_cons_zero, set_cons_succ, i64_w, i32_w]; rfl)
                   refine take_ (i := 5) (N := some 88) (v := ?_) (a' := ?_) (bl_15 25 63) rfl rfl (take_ofW HT_.out HW_.out (by kernel_rfl)) (fun _ _ _ h => h) (Or.inl ⟨by rfl, ?_⟩) hHeld ?_ ?_; rotate_left; (· rintro w' ⟨s0, s1, s2, s3⟩; go_simp; with_reducible rfl); rotate_left; (· simp only [Act.put, setIfInBounds_toArray, set_cons_zero, set_cons_succ, i64_w, i32_w]; rfl)
                   refine pure_ (i := 6) (N := some 89) (v := ?_) (a' := ?_) (bl_15 25 127) rfl rfl (any_of HT_.out (by kernel_rfl)) (fun _ _ _ h => h) (Or.inl ⟨by rfl, ?_⟩) ?_ ?_; rotate_left; (· intro w'; go_simp; with_reducible rfl); rotate_left; (· simp only [Act.put, setIfInBounds_toArray, set_cons_zero, set_cons_succ, i64_w, i32_w]; rfl)
                   refine pure_ (i := 7) (N := some 90) (v := ?_) (a' := ?_) (bl_15 25 255) rfl rfl (any_of HT_.out (by kernel_rfl)) (fun _ _ _ h => h) (Or.inl ⟨by rfl, ?_⟩) ?_ ?_; rotate_left; (· intro w'; go_simp; with_reducible rfl); rotate_left; (· simp only [Act.put, setIfInBounds_toArray, set_cons_zero, set_cons_succ, i64_w, i32_w]; rfl)
                   refine pure_ (i := 8) (N := some 91) (v := ?_) (a' := ?_) (bl_15 25 511) rfl rfl (any_of HT_.out (by kernel_rfl)) (fun _ _ _ h => h) (Or.inl ⟨by rfl, ?_⟩) ?_ ?_; rotate_left; (· intro w'; go_simp; with_reducible rfl); rotate_left; (· simp only [Act.put, setIfInBounds_toArray, set_cons_zero, set_cons_succ, i64_w, i32_w]; rfl)
                   refine pure_ (i := 9) (N := some 92) (v := ?_) (a' := ?_) (bl_15 25 1023) rfl rfl (any_of HT_.out (by kernel_rfl)) (fun _ _ _ h => h) (Or.inl ⟨by rfl, ?_⟩) ?_ ?_; rotate_left; (· intro w'; go_simp; with_reducible rfl); rotate_left; (· simp only [Act.put, setIfInBounds_toArray, set_cons_zero, set_cons_succ, i64_w, i32_w]; rfl)
                   refine pure_ (i := 11) (N := some 94) (v := ?_) (a' := ?_) (bl_15 25 3071) rfl rfl (any_of HT_.out (by kernel_rfl)) (fun _ _ _ h => h) (Or.inl ⟨by rfl, ?_⟩) ?_ ?_; rotate_left; (· intro w'; go_simp; with_reducible rfl); rotate_left; (· simp only [Act.put, setIfInBounds_toArray, set_cons_zero, set_cons_succ, i64_w, i32_w]; rfl)
                   refine pure_ (i := 12) (N := some 95) (v := ?_) (a' := ?_) (bl_15 25 7167) rfl rfl (any_of HT_.out (by kernel_rfl)) (fun _ _ _ h => h) (Or.inl ⟨by rfl, ?_⟩) ?_ ?_; rotate_left; (· intro w'; go_simp; with_reducible rfl); rotate_left; (· simp only [Act.put, setIfInBounds_toArray, set_cons_zero, set_cons_succ, i64_w, i32_w]; rfl)
                   refine pure_ (i := 15) (N := some 98) (v := ?_) (a' := ?_) (bl_15 25 39935) rfl rfl (any_of HT_.out (by kernel_rfl)) (fun _ _ _ h => h) (Or.inl ⟨by rfl, ?_⟩) ?_ ?_; rotate_left; (· intro w'; go_simp; with_reducible rfl); rotate_left; (· simp only [Act.put, setIfInBounds_toArray, set_cons_zero, set_cons_succ, i64_w, i32_w]; rfl)
                   refine pure_ (i := 16) (N := some 99) (v := ?_) (a' := ?_) (bl_15 25 105471) rfl rfl (any_of HT_.out (by kernel_rfl)) (fun _ _ _ h => h) (Or.inl ⟨by rfl, ?_⟩) ?_ ?_; rotate_left; (· intro w'; go_simp; with_reducible rfl); rotate_left; (· simp only [Act.put, setIfInBounds_toArray, set_cons_zero, set_cons_succ, i64_w, i32_w]; rfl)
                   refine pure_ (i := 18) (N := some 101) (v := ?_) (a' := ?_) (bl_15 25 367615) rfl rfl (any_of HT_.out (by kernel_rfl)) (fun _ _ _ h => h) (Or.inl ⟨by rfl, ?_⟩) ?_ ?_; rotate_left; (· intro w'; go_simp; with_reducible rfl); rotate_left; (· simp only [Act.put, setIfInBounds_toArray, set_cons_zero, set_cons_succ, i64_w, i32_w]; rfl)
                   refine pure_ (i := 19) (N := some 102) (v := ?_) (a' := ?_) (bl_15 25 891903) rfl rfl (any_of HT_.out (by kernel_rfl)) (fun _ _ _ h => h) (Or.inl ⟨by rfl, ?_⟩) ?_ ?_; rotate_left; (· intro w'; go_simp; with_reducible rfl); rotate_left; (· simp only [Act.put, setIfInBounds_toArray, set_cons_zero, set_cons_succ, i64_w, i32_w]; rfl)
                   refine take_ (i := 10) (N := some 93) (v := ?_) (a' := ?_) (bl_15 25 892927) rfl rfl (take_ofW HT_.out HW_.out (by kernel_rfl)) (fun _ _ _ h => h) (Or.inl ⟨by rfl, ?_⟩) hHeld ?_ ?_; rotate_left; (· rintro w' ⟨s0, s1, s2, s3⟩; go_simp; with_reducible rfl); rotate_left; (· simp only [Act.put, setIfInBounds_toArray, set_cons_zero, set_cons_succ, i64_w, i32_w]; rfl)
                   refine take_ (i := 13) (N := some 96) (v := ?_) (a' := ?_) (bl_15 25 901119) rfl rfl (take_ofW HT_.out HW_.out (by kernel_rfl)) (fun _ _ _ h => h) (Or.inl ⟨by rfl, ?_⟩) hHeld ?_ ?_; rotate_left; (· rintro w' ⟨s0, s1, s2, s3⟩; go_simp; with_reducible rfl); rotate_left; (· simp only [Act.put, setIfInBounds_toArray, set_cons_zero, set_cons_succ, i64_w, i32_w]; rfl)
                   refine take_ (i := 17) (N := some 100) (v := ?_) (a' := ?_) (bl_15 25 1032191) rfl rfl (take_ofW HT_.out HW_.out (by kernel_rfl)) (fun _ _ _ h => h) (Or.inl ⟨by rfl, ?_⟩) hHeld ?_ ?_; rotate_left; (· rintro w' ⟨s0, s1, s2, s3⟩; go_simp; with_reducible rfl); rotate_left; (· simp only [Act.put, setIfInBounds_toArray, set_cons_zero, set_cons_succ, i64_w, i32_w]; rfl)
                   refine take_ (i := 20) (N := some 103) (v := ?_) (a' := ?_) (bl_15 25 2080767) rfl rfl (take_ofW HT_.out HW_.out (by kernel_rfl)) (fun _ _ _ h => h) (Or.inl ⟨by rfl, ?_⟩) hHeld ?_ ?_; rotate_left; (· rintro w' ⟨s0, s1, s2, s3⟩; go_simp; with_reducible rfl); rotate_left; (· simp only [Act.put, setIfInBounds_toArray, set_cons_zero, set_cons_succ, i64_w, i32_w]; rfl)
                   refine one_ (i := 14) (N := some 97) (bl_15 25 2097151) rfl rfl (one_of HT_.out (by kernel_rfl)) (by decide) (fun K hK => ?_)
                   refine goes_ Try.func21 (by kernel_rfl) rfl #[.int .u64 t202, .int .u64 t203] (by rfl) rfl rfl (by (try simp only [map_toArray, map_cons, map_nil]); first | done | rfl) ?_
                   with_reducible refine (digest_Join.calls t202 t203 t208 _ A59.out).mono ?_
                   rintro e w' ⟨rfl, ⟨nd, rfl⟩⟩
                   refine ⟨_, rfl, ?_⟩
                   refine hK.out _ _ ⟨(blk_cell BK207.out 0).trans rfl, (blk_cell BK207.out 1).trans rfl, (blk_cell BK207.out 2).trans rfl, (blk_cell BK207.out 3).trans rfl⟩ (fun hHeld => ?_)
                   clear hK K
                   refine norm_ (a' := ?_) ?_ ?_
                   rotate_left
                   ·
                    show Act.put _ (some 97) _ = _
                    simp only [Act.put, setIfInBounds_toArray, set_cons_zero, set_cons_succ, i64_w, i32_w]
                    rfl
                   refine one_ (i := 21) (N := some 104) (bl_15 25 4194303) rfl rfl (one_of HT_.out (by kernel_rfl)) (by decide) (fun K hK => ?_)
                   refine goes_ Try.func21 (by kernel_rfl) rfl #[.int .u64 t204, .int .u64 t205] (by rfl) rfl rfl (by (try simp only [map_toArray, map_cons, map_nil]); first | done | rfl) ?_
                   with_reducible refine (digest_Join.calls t204 t205 t209 _ A60.out).mono ?_
                   rintro e w' ⟨rfl, ⟨nd, rfl⟩⟩
                   refine ⟨_, rfl, ?_⟩
                   refine hK.out _ _ ⟨(blk_cell BK207.out 0).trans rfl, (blk_cell BK207.out 1).trans rfl, (blk_cell BK207.out 2).trans rfl, (blk_cell BK207.out 3).trans rfl⟩ (fun hHeld => ?_)
                   clear hK K
                   refine norm_ (a' := ?_) ?_ ?_
                   rotate_left
                   ·
                    show Act.put _ (some 104) _ = _
                    simp only [Act.put, setIfInBounds_toArray, set_cons_zero, set_cons_succ, i64_w, i32_w]
                    rfl
                   refine pure_ (i := 22) (N := some 105) (v := ?_) (a' := ?_) (bl_15 25 8388607) rfl rfl (any_of HT_.out (by kernel_rfl)) (fun _ _ _ h => h) (Or.inl ⟨by rfl, ?_⟩) ?_ ?_; rotate_left; (· intro w'; go_simp; with_reducible rfl); rotate_left; (· simp only [Act.put, setIfInBounds_toArray, set_cons_zero, set_cons_succ, i64_w, i32_w]; rfl)
                   refine pure_ (i := 23) (N := some 106) (v := ?_) (a' := ?_) (bl_15 25 16777215) rfl rfl (any_of HT_.out (by kernel_rfl)) (fun _ _ _ h => h) (Or.inl ⟨by rfl, ?_⟩) ?_ ?_; rotate_left; (· intro w'; go_simp; with_reducible rfl); rotate_left; (· simp only [Act.put, setIfInBounds_toArray, set_cons_zero, set_cons_succ, i64_w, i32_w]; rfl)
                   refine pure_ (i := 24) (N := some 107) (v := ?_) (a' := ?_) (bl_15 25 33554431) rfl rfl (any_of HT_.out (by kernel_rfl)) (fun _ _ _ h => h) (Or.inl ⟨by rfl, ?_⟩) ?_ ?_; rotate_left; (· intro w'; go_simp; with_reducible rfl); rotate_left; (· simp only [Act.put, setIfInBounds_toArray, set_cons_zero, set_cons_succ, i64_w, i32_w]; rfl)
                   refine done_ (done_of HT_.out (by kernel_rfl)) ?_
                   have hcz78_0 : w77.cell? ⟨gb190, 0, none⟩ = some (.int .u64 a2_0) := (blk_cell BK190.out 0).trans rfl
                   have hcz78_1 : w77.cell? ⟨gb190, 1, none⟩ = some (.slice A2_1 l2_1.length c2_1) := (blk_cell BK190.out 1).trans rfl
                   have hfz78_0 := blk_frozen BK190.out 0
                   have hfz78_1 := blk_frozen BK190.out 1
                   try go_wp2_with (first | ((with_reducible refine gate_callee (f := 35) rfl ?_); refine goesL_ (some 113) rfl rfl Try.func35 (by kernel_rfl) rfl #[.int .u64 t192, .int .i64 (l0.length : Int), .int .i64 ji16, .agg #[.int .u64 a2_0, .slice A2_1 l2_1.length c2_1]] rfl (by (try simp only [map_toArray, map_cons, map_nil]); first | done | (simp only [hji16]; rfl) | rfl) ?_; (with_reducible refine (parolelaw04_check.calls t192 (l0.length : Int) ji16 a2_0 _ _ l2_1 t210 _ ?side1 ?side2 A62.out).mono ?_); (case side1 => repeat (first | exact (Kd.C_below HR2_1.out (by repeat (first | (with_reducible first | exact HB.out | apply below_alloc | apply pw_below_drewN | apply below_drew1 | refine below_set ?_ GE190.out | refine below_set ?_ GE197.out | refine below_set ?_ GE199.out | refine below_set ?_ GE207.out) | exact HB.out))) | (with_reducible refine Kd.C_alloc ?_ _) | (with_reducible refine Kd.C_drewN ?_ _) | (with_reducible refine Kd.C_drew ?_))); (case side2 => exact HC2_1.out); rintro e w79 ⟨rfl, hb⟩; refine ⟨_, rfl, ?_⟩; have n0_ := Aside0.mk (Kd.R_below (by (with_reducible repeat (first | apply Kd.R_alloc | apply Kd.R_drewN | apply Kd.R_drew)); exact HO_198000.out) hb); have n1_ := Aside0.mk (Kd.R_below (by (with_reducible repeat (first | apply Kd.R_alloc | apply Kd.R_drewN | apply Kd.R_drew)); exact HO_200001.out) hb); have n2_ := Aside0.mk (blk_below (g := gb190) (o := .cells #[.int .u64 a2_0, .slice A2_1 l2_1.length c2_1] 50 (0, 0)) (by (with_reducible repeat (first | refine blk_drewN ?_ _ | refine blk_drew ?_ | refine blk_alloc ?_ _)); exact BK190.out) hb); have n3_ := Aside0.mk (blk_below (g := gb197) (o := .cells #[.slice Ao22 t193.length co22, .int .i64 t196] 46 (0, 0)) (by (with_reducible repeat (first | refine blk_drewN ?_ _ | refine blk_drew ?_ | refine blk_alloc ?_ _)); exact BK197.out) hb); have n4_ := Aside0.mk (blk_below (g := gb199) (o := .cells #[.int .u64 (rd l0 (ji16)), .slice Ao22 t193.length co22] 50 (0, 0)) (by (with_reducible repeat (first | refine blk_drewN ?_ _ | refine blk_drew ?_ | refine blk_alloc ?_ _)); exact BK199.out) hb); have n5_ := Aside0.mk (blk_below (g := gb207) (o := .cells #[.int .u64 t202, .int .u64 t203, .int .u64 t204, .int .u64 t205] 60 (0, 0)) (by (with_reducible repeat (first | refine blk_drewN ?_ _ | refine blk_drew ?_ | refine blk_alloc ?_ _)); exact BK207.out) hb); have n6_ := Aside0.mk (below_step (by repeat (first | (with_reducible first | exact HB.out | apply below_alloc | apply pw_below_drewN | apply below_drew1 | refine below_set ?_ GE190.out | refine below_set ?_ GE197.out | refine below_set ?_ GE199.out | refine below_set ?_ GE207.out) | exact HB.out)) hb); clear HO_198000; clear HO_200001; clear BK190; clear BK197; clear BK199; clear BK207; clear HB; have HO_198000 := n0_; have HO_200001 := n1_; have BK190 := n2_; have BK197 := n3_; have BK199 := n4_; have BK207 := n5_; have HB := n6_; clear n0_ n1_ n2_ n3_ n4_ n5_ n6_; (try clear hb); (try clear hb2); (try clear hk); (try clear hi)))
                   go_ret
                   exact ⟨by first | rfl | (simp [errW_none, errW_some] <;> rfl) | (simp only [← hji16]; first | rfl | (simp [errW_none, errW_some] <;> rfl)) | (simp [*, errW_none, errW_some] <;> rfl), by repeat (first | (with_reducible first | exact HB.out | apply below_alloc | apply pw_below_drewN | apply below_drew1 | refine below_set ?_ GE190.out | refine below_set ?_ GE197.out | refine below_set ?_ GE199.out | refine below_set ?_ GE207.out) | exact HB.out)⟩
                 ·
                  rw [if_neg c63] at H
                  have c63b0 : (t210 == 0) = false := beq_eq_false_iff_ne.mpr c63
                  have c63b1 : (t210 != 0) = true := bne_iff_ne.mpr c63
                  by_cases c80 : x12_41 = true
                  ·
                   subst c80
                   have H1 : (none) = some r := by rw [if_pos rfl] at H; exact H
                   clear H
                   have H := H1
                   clear H1
                   exact absurd H (by simp)
                  ·
                   replace c80 := Bool.eq_false_iff.mpr c80
                   subst c80
                   have H1 : (some true) = some r := by rw [if_neg (show ¬ (false = true) by decide)] at H; exact H
                   clear H
                   have H := H1
                   clear H1
                   obtain rfl := Option.some.inj H
                   have hnb81 := NB199_190.out
                   have hnc81 := NB190_199.out
                   have hnb82 := NB199_197.out
                   have hnc82 := NB197_199.out
                   have hcz83_0 : wc.cell? ⟨gb199, 0, none⟩ = some (.int .u64 (rd l0 (ji16))) := (blk_cell BK199.out 0).trans rfl
                   have hcz83_1 : wc.cell? ⟨gb199, 1, none⟩ = some (.slice Ao22 t193.length co22) := (blk_cell BK199.out 1).trans rfl
                   have hfz83_0 := blk_frozen BK199.out 0
                   have hfz83_1 := blk_frozen BK199.out 1
                   have hnb84 := NB190_197.out
                   have hnc84 := NB197_190.out
                   have hcz85_0 : wc.cell? ⟨gb190, 0, none⟩ = some (.int .u64 a2_0) := (blk_cell BK190.out 0).trans rfl
                   have hcz85_1 : wc.cell? ⟨gb190, 1, none⟩ = some (.slice A2_1 l2_1.length c2_1) := (blk_cell BK190.out 1).trans rfl
                   have hfz85_0 := blk_frozen BK190.out 0
                   have hfz85_1 := blk_frozen BK190.out 1
                   try go_wp2_with (first | ((with_reducible refine gate_callee (f := 40) rfl ?_); refine goesL_ (some 80) rfl rfl Try.func40 (by kernel_rfl) rfl #[.int .i64 (l0.length : Int), .int .i64 ji16, .agg #[.int .u64 (rd l0 (ji16)), .slice Ao22 t193.length co22], .agg #[.int .u64 a2_0, .slice A2_1 l2_1.length c2_1]] rfl (by (try simp only [map_toArray, map_cons, map_nil]); first | done | (simp only [hji16]; rfl) | rfl) ?_; (with_reducible refine (merkle_Collide.calls kj41 (l0.length : Int) ji16 (rd l0 (ji16)) _ _ t193 a2_0 _ _ l2_1 t202 t203 t204 t205 true _ ?side1 ?side2 ?side3 ?side4 A55.out).mono ?_); (case side1 => repeat (first | exact (Kd.R_reads' HO_200001.out).2.2 | (with_reducible refine Kd.C_alloc ?_ _) | (with_reducible refine Kd.C_drewN ?_ _) | (with_reducible refine Kd.C_drew ?_))); (case side2 => exact (Kd.R_reads' HO_200001.out).2.1); (case side3 => repeat (first | exact (Kd.C_below HR2_1.out HB.out) | (with_reducible refine Kd.C_alloc ?_ _) | (with_reducible refine Kd.C_drewN ?_ _) | (with_reducible refine Kd.C_drew ?_))); (case side4 => exact HC2_1.out); rintro e w86 ⟨rfl, hb⟩; refine ⟨_, rfl, ?_⟩; have n0_ := Aside0.mk (Kd.R_below (by (with_reducible repeat (first | apply Kd.R_alloc | apply Kd.R_drewN | apply Kd.R_drew)); exact HO_198000.out) hb); have n1_ := Aside0.mk (Kd.R_below (by (with_reducible repeat (first | apply Kd.R_alloc | apply Kd.R_drewN | apply Kd.R_drew)); exact HO_200001.out) hb); have n2_ := Aside0.mk (blk_below (g := gb190) (o := .cells #[.int .u64 a2_0, .slice A2_1 l2_1.length c2_1] 50 (0, 0)) (by (with_reducible repeat (first | refine blk_drewN ?_ _ | refine blk_drew ?_ | refine blk_alloc ?_ _)); exact BK190.out) hb); have n3_ := Aside0.mk (blk_below (g := gb197) (o := .cells #[.slice Ao22 t193.length co22, .int .i64 t196] 46 (0, 0)) (by (with_reducible repeat (first | refine blk_drewN ?_ _ | refine blk_drew ?_ | refine blk_alloc ?_ _)); exact BK197.out) hb); have n4_ := Aside0.mk (blk_below (g := gb199) (o := .cells #[.int .u64 (rd l0 (ji16)), .slice Ao22 t193.length co22] 50 (0, 0)) (by (with_reducible repeat (first | refine blk_drewN ?_ _ | refine blk_drew ?_ | refine blk_alloc ?_ _)); exact BK199.out) hb); have n5_ := Aside0.mk (below_step (by repeat (first | (with_reducible first | exact HB.out | apply below_alloc | apply pw_below_drewN | apply below_drew1 | refine below_set ?_ GE190.out | refine below_set ?_ GE197.out | refine below_set ?_ GE199.out) | exact HB.out)) hb); clear HO_198000; clear HO_200001; clear BK190; clear BK197; clear BK199; clear HB; have HO_198000 := n0_; have HO_200001 := n1_; have BK190 := n2_; have BK197 := n3_; have BK199 := n4_; have HB := n5_; clear n0_ n1_ n2_ n3_ n4_ n5_; (try clear hb); (try clear hb2); (try clear hk); (try clear hi)) | ((with_reducible refine gate_dst (N := 13) rfl ?_); (try (refine gate_guard (by rfl) ?_; dsimp only)); refine box_event ?hg (N := 13) ?hd (cs := #[.int .u64 0, .int .u64 0, .int .u64 0, .int .u64 0]) (t := 60) ?hr ?_; (case hd => rfl); (case hg => rfl); (case hr => first | (go_simp; done) | (go_simp; rfl)); intro gb207 hg w87 hbox hb; have n0_ := Aside0.mk (Kd.R_below (by (with_reducible repeat (first | apply Kd.R_alloc | apply Kd.R_drewN | apply Kd.R_drew)); exact HO_198000.out) hb); have n1_ := Aside0.mk (Kd.R_below (by (with_reducible repeat (first | apply Kd.R_alloc | apply Kd.R_drewN | apply Kd.R_drew)); exact HO_200001.out) hb); have n2_ := Aside0.mk (blk_below (g := gb190) (o := .cells #[.int .u64 a2_0, .slice A2_1 l2_1.length c2_1] 50 (0, 0)) (by (with_reducible repeat (first | refine blk_drewN ?_ _ | refine blk_drew ?_ | refine blk_alloc ?_ _)); exact BK190.out) hb); have n3_ := Aside0.mk (blk_below (g := gb197) (o := .cells #[.slice Ao22 t193.length co22, .int .i64 t196] 46 (0, 0)) (by (with_reducible repeat (first | refine blk_drewN ?_ _ | refine blk_drew ?_ | refine blk_alloc ?_ _)); exact BK197.out) hb); have n4_ := Aside0.mk (blk_below (g := gb199) (o := .cells #[.int .u64 (rd l0 (ji16)), .slice Ao22 t193.length co22] 50 (0, 0)) (by (with_reducible repeat (first | refine blk_drewN ?_ _ | refine blk_drew ?_ | refine blk_alloc ?_ _)); exact BK199.out) hb); have n5_ := Aside0.mk (below_step (by repeat (first | (with_reducible first | exact HB.out | apply below_alloc | apply pw_below_drewN | apply below_drew1 | refine below_set ?_ GE190.out | refine below_set ?_ GE197.out | refine below_set ?_ GE199.out) | exact HB.out)) hb); have n6_ := Aside0.mk (hbox); have n7_ := Aside0.mk ((by rw [hg]; exact (below_size (by repeat (first | (with_reducible first | exact HB.out | apply below_alloc | apply pw_below_drewN | apply below_drew1 | refine below_set ?_ GE190.out | refine below_set ?_ GE197.out | refine below_set ?_ GE199.out) | exact HB.out))) : w.heap.size ≤ gb207)); have n8_ := Aside0.mk ((by rw [hg]; exact (below_size (by repeat (first | (with_reducible first | exact HB.out | apply below_alloc | apply pw_below_drewN | apply below_drew1 | refine below_set ?_ GE190.out | refine below_set ?_ GE197.out | refine below_set ?_ GE199.out) | exact HB.out))) : w.heap.size ≤ gb207)); have n9_ := Aside0.mk ((by rw [hg]; exact Nat.ne_of_lt (blk_lt (g := gb190) (o := .cells #[.int .u64 a2_0, .slice A2_1 l2_1.length c2_1] 50 (0, 0)) (by (with_reducible repeat (first | refine blk_drewN ?_ _ | refine blk_drew ?_ | refine blk_alloc ?_ _)); exact BK190.out)) : gb190 ≠ gb207)); have n10_ := Aside0.mk ((by rw [hg]; exact Nat.ne_of_gt (blk_lt (g := gb190) (o := .cells #[.int .u64 a2_0, .slice A2_1 l2_1.length c2_1] 50 (0, 0)) (by (with_reducible repeat (first | refine blk_drewN ?_ _ | refine blk_drew ?_ | refine blk_alloc ?_ _)); exact BK190.out)) : gb207 ≠ gb190)); have n11_ := Aside0.mk ((by rw [hg]; exact Nat.ne_of_lt (blk_lt (g := gb197) (o := .cells #[.slice Ao22 t193.length co22, .int .i64 t196] 46 (0, 0)) (by (with_reducible repeat (first | refine blk_drewN ?_ _ | refine blk_drew ?_ | refine blk_alloc ?_ _)); exact BK197.out)) : gb197 ≠ gb207)); have n12_ := Aside0.mk ((by rw [hg]; exact Nat.ne_of_gt (blk_lt (g := gb197) (o := .cells #[.slice Ao22 t193.length co22, .int .i64 t196] 46 (0, 0)) (by (with_reducible repeat (first | refine blk_drewN ?_ _ | refine blk_drew ?_ | refine blk_alloc ?_ _)); exact BK197.out)) : gb207 ≠ gb197)); have n13_ := Aside0.mk ((by rw [hg]; exact Nat.ne_of_lt (blk_lt (g := gb199) (o := .cells #[.int .u64 (rd l0 (ji16)), .slice Ao22 t193.length co22] 50 (0, 0)) (by (with_reducible repeat (first | refine blk_drewN ?_ _ | refine blk_drew ?_ | refine blk_alloc ?_ _)); exact BK199.out)) : gb199 ≠ gb207)); have n14_ := Aside0.mk ((by rw [hg]; exact Nat.ne_of_gt (blk_lt (g := gb199) (o := .cells #[.int .u64 (rd l0 (ji16)), .slice Ao22 t193.length co22] 50 (0, 0)) (by (with_reducible repeat (first | refine blk_drewN ?_ _ | refine blk_drew ?_ | refine blk_alloc ?_ _)); exact BK199.out)) : gb207 ≠ gb199)); clear HO_198000; clear HO_200001; clear BK190; clear BK197; clear BK199; clear HB; have HO_198000 := n0_; have HO_200001 := n1_; have BK190 := n2_; have BK197 := n3_; have BK199 := n4_; have HB := n5_; have BK207 := n6_; have GW207 := n7_; have GE207 := n8_; have NB190_207 := n9_; have NB207_190 := n10_; have NB197_207 := n11_; have NB207_197 := n12_; have NB199_207 := n13_; have NB207_199 := n14_; clear n0_ n1_ n2_ n3_ n4_ n5_ n6_ n7_ n8_ n9_ n10_ n11_ n12_ n13_ n14_; clear hb hbox hg; have hnb88 := NB207_190.out; have hnc88 := NB190_207.out; have hnb89 := NB207_197.out; have hnc89 := NB197_207.out; have hnb90 := NB207_199.out; have hnc90 := NB199_207.out; have hcz91_0 : w87.cell? ⟨gb207, 0, none⟩ = some (.int .u64 0) := (blk_cell BK207.out 0).trans rfl; have hcz91_1 : w87.cell? ⟨gb207, 1, none⟩ = some (.int .u64 0) := (blk_cell BK207.out 1).trans rfl; have hcz91_2 : w87.cell? ⟨gb207, 2, none⟩ = some (.int .u64 0) := (blk_cell BK207.out 2).trans rfl; have hcz91_3 : w87.cell? ⟨gb207, 3, none⟩ = some (.int .u64 0) := (blk_cell BK207.out 3).trans rfl; have hfz91_0 := blk_frozen BK207.out 0; have hfz91_1 := blk_frozen BK207.out 1; have hfz91_2 := blk_frozen BK207.out 2; have hfz91_3 := blk_frozen BK207.out 3))
                   have n0_ : Aside0 (Kd.R (Kd.int .u64) 22 ((((w87.setCell ⟨gb207, 0, none⟩ (.int .u64 t202)).setCell ⟨gb207, 1, none⟩ (.int .u64 t203)).setCell ⟨gb207, 2, none⟩ (.int .u64 t204)).setCell ⟨gb207, 3, none⟩ (.int .u64 t205)) w.heap.size (fun _ => True) (.slice Ao22 t193.length co22) t193) := ⟨by (with_reducible repeat (first | apply Kd.R_alloc | apply Kd.R_drewN | apply Kd.R_drew)); exact Kd.R_mono (Kd.R_far (p := ⟨gb207, 3, none⟩) (Kd.R_far (p := ⟨gb207, 2, none⟩) (Kd.R_far (p := ⟨gb207, 1, none⟩) (Kd.R_far (p := ⟨gb207, 0, none⟩) (Kd.R_types HO_198000.out BK207.out (by decide)) (fun _ hk => by first | exact hk.2 | exact hk | exact ⟨hk.2, hk.1⟩ | simp_all) (.int .u64 t202)) (fun _ hk => by first | exact hk.2 | exact hk | exact ⟨hk.2, hk.1⟩ | simp_all) (.int .u64 t203)) (fun _ hk => by first | exact hk.2 | exact hk | exact ⟨hk.2, hk.1⟩ | simp_all) (.int .u64 t204)) (fun _ hk => by first | exact hk.2 | exact hk | exact ⟨hk.2, hk.1⟩ | simp_all) (.int .u64 t205)) (fun _ hk => trivial)⟩
                   have n1_ : Aside0 (Kd.R (Kd.int .u64) 22 ((((w87.setCell ⟨gb207, 0, none⟩ (.int .u64 t202)).setCell ⟨gb207, 1, none⟩ (.int .u64 t203)).setCell ⟨gb207, 2, none⟩ (.int .u64 t204)).setCell ⟨gb207, 3, none⟩ (.int .u64 t205)) w.heap.size (fun _ => True) (.slice Ao22 t193.length co22) t193) := ⟨by (with_reducible repeat (first | apply Kd.R_alloc | apply Kd.R_drewN | apply Kd.R_drew)); exact Kd.R_mono (Kd.R_far (p := ⟨gb207, 3, none⟩) (Kd.R_far (p := ⟨gb207, 2, none⟩) (Kd.R_far (p := ⟨gb207, 1, none⟩) (Kd.R_far (p := ⟨gb207, 0, none⟩) (Kd.R_types HO_200001.out BK207.out (by decide)) (fun _ hk => by first | exact hk.2 | exact hk | exact ⟨hk.2, hk.1⟩ | simp_all) (.int .u64 t202)) (fun _ hk => by first | exact hk.2 | exact hk | exact ⟨hk.2, hk.1⟩ | simp_all) (.int .u64 t203)) (fun _ hk => by first | exact hk.2 | exact hk | exact ⟨hk.2, hk.1⟩ | simp_all) (.int .u64 t204)) (fun _ hk => by first | exact hk.2 | exact hk | exact ⟨hk.2, hk.1⟩ | simp_all) (.int .u64 t205)) (fun _ hk => trivial)⟩
                   have n2_ : Aside0 (((((w87.setCell ⟨gb207, 0, none⟩ (.int .u64 t202)).setCell ⟨gb207, 1, none⟩ (.int .u64 t203)).setCell ⟨gb207, 2, none⟩ (.int .u64 t204)).setCell ⟨gb207, 3, none⟩ (.int .u64 t205)).heap[gb190]? = some (.cells #[.int .u64 a2_0, .slice A2_1 l2_1.length c2_1] 50 (0, 0))) := ⟨by (with_reducible repeat (first | refine blk_drewN ?_ _ | refine blk_drew ?_ | refine blk_alloc ?_ _)); refine blk_far ?_ NB190_207.out _; (with_reducible repeat (first | refine blk_drewN ?_ _ | refine blk_drew ?_ | refine blk_alloc ?_ _)); refine blk_far ?_ NB190_207.out _; (with_reducible repeat (first | refine blk_drewN ?_ _ | refine blk_drew ?_ | refine blk_alloc ?_ _)); refine blk_far ?_ NB190_207.out _; (with_reducible repeat (first | refine blk_drewN ?_ _ | refine blk_drew ?_ | refine blk_alloc ?_ _)); refine blk_far ?_ NB190_207.out _; (with_reducible repeat (first | refine blk_drewN ?_ _ | refine blk_drew ?_ | refine blk_alloc ?_ _)); exact BK190.out⟩
                   have n3_ : Aside0 (((((w87.setCell ⟨gb207, 0, none⟩ (.int .u64 t202)).setCell ⟨gb207, 1, none⟩ (.int .u64 t203)).setCell ⟨gb207, 2, none⟩ (.int .u64 t204)).setCell ⟨gb207, 3, none⟩ (.int .u64 t205)).heap[gb197]? = some (.cells #[.slice Ao22 t193.length co22, .int .i64 t196] 46 (0, 0))) := ⟨by (with_reducible repeat (first | refine blk_drewN ?_ _ | refine blk_drew ?_ | refine blk_alloc ?_ _)); refine blk_far ?_ NB197_207.out _; (with_reducible repeat (first | refine blk_drewN ?_ _ | refine blk_drew ?_ | refine blk_alloc ?_ _)); refine blk_far ?_ NB197_207.out _; (with_reducible repeat (first | refine blk_drewN ?_ _ | refine blk_drew ?_ | refine blk_alloc ?_ _)); refine blk_far ?_ NB197_207.out _; (with_reducible repeat (first | refine blk_drewN ?_ _ | refine blk_drew ?_ | refine blk_alloc ?_ _)); refine blk_far ?_ NB197_207.out _; (with_reducible repeat (first | refine blk_drewN ?_ _ | refine blk_drew ?_ | refine blk_alloc ?_ _)); exact BK197.out⟩
                   have n4_ : Aside0 (((((w87.setCell ⟨gb207, 0, none⟩ (.int .u64 t202)).setCell ⟨gb207, 1, none⟩ (.int .u64 t203)).setCell ⟨gb207, 2, none⟩ (.int .u64 t204)).setCell ⟨gb207, 3, none⟩ (.int .u64 t205)).heap[gb199]? = some (.cells #[.int .u64 (rd l0 (ji16)), .slice Ao22 t193.length co22] 50 (0, 0))) := ⟨by (with_reducible repeat (first | refine blk_drewN ?_ _ | refine blk_drew ?_ | refine blk_alloc ?_ _)); refine blk_far ?_ NB199_207.out _; (with_reducible repeat (first | refine blk_drewN ?_ _ | refine blk_drew ?_ | refine blk_alloc ?_ _)); refine blk_far ?_ NB199_207.out _; (with_reducible repeat (first | refine blk_drewN ?_ _ | refine blk_drew ?_ | refine blk_alloc ?_ _)); refine blk_far ?_ NB199_207.out _; (with_reducible repeat (first | refine blk_drewN ?_ _ | refine blk_drew ?_ | refine blk_alloc ?_ _)); refine blk_far ?_ NB199_207.out _; (with_reducible repeat (first | refine blk_drewN ?_ _ | refine blk_drew ?_ | refine blk_alloc ?_ _)); exact BK199.out⟩
                   have n5_ : Aside0 (((((w87.setCell ⟨gb207, 0, none⟩ (.int .u64 t202)).setCell ⟨gb207, 1, none⟩ (.int .u64 t203)).setCell ⟨gb207, 2, none⟩ (.int .u64 t204)).setCell ⟨gb207, 3, none⟩ (.int .u64 t205)).heap[gb207]? = some (.cells #[.int .u64 t202, .int .u64 t203, .int .u64 t204, .int .u64 t205] 60 (0, 0))) := ⟨by (with_reducible repeat (first | refine blk_drewN ?_ _ | refine blk_drew ?_ | refine blk_alloc ?_ _)); refine blk_put (cs := #[.int .u64 t202, .int .u64 t203, .int .u64 t204, .int .u64 0]) ?_ 3 _ rfl; (with_reducible repeat (first | refine blk_drewN ?_ _ | refine blk_drew ?_ | refine blk_alloc ?_ _)); refine blk_put (cs := #[.int .u64 t202, .int .u64 t203, .int .u64 0, .int .u64 0]) ?_ 2 _ rfl; (with_reducible repeat (first | refine blk_drewN ?_ _ | refine blk_drew ?_ | refine blk_alloc ?_ _)); refine blk_put (cs := #[.int .u64 t202, .int .u64 0, .int .u64 0, .int .u64 0]) ?_ 1 _ rfl; (with_reducible repeat (first | refine blk_drewN ?_ _ | refine blk_drew ?_ | refine blk_alloc ?_ _)); refine blk_put (cs := #[.int .u64 0, .int .u64 0, .int .u64 0, .int .u64 0]) ?_ 0 _ rfl; (with_reducible repeat (first | refine blk_drewN ?_ _ | refine blk_drew ?_ | refine blk_alloc ?_ _)); exact BK207.out⟩
                   have n6_ : Aside0 (Below w.heap.size w ((((w87.setCell ⟨gb207, 0, none⟩ (.int .u64 t202)).setCell ⟨gb207, 1, none⟩ (.int .u64 t203)).setCell ⟨gb207, 2, none⟩ (.int .u64 t204)).setCell ⟨gb207, 3, none⟩ (.int .u64 t205))) := ⟨by repeat (first | (with_reducible first | exact HB.out | apply below_alloc | apply pw_below_drewN | apply below_drew1 | refine below_set ?_ GE190.out | refine below_set ?_ GE197.out | refine below_set ?_ GE199.out | refine below_set ?_ GE207.out) | exact HB.out)⟩
                   (try clear HO_198000)
                   (try clear HO_200001)
                   (try clear BK190)
                   (try clear BK197)
                   (try clear BK199)
                   (try clear BK207)
                   (try clear HB)
                   generalize ((((w87.setCell ⟨gb207, 0, none⟩ (.int .u64 t202)).setCell ⟨gb207, 1, none⟩ (.int .u64 t203)).setCell ⟨gb207, 2, none⟩ (.int .u64 t204)).setCell ⟨gb207, 3, none⟩ (.int .u64 t205)) = w92 at n0_ n1_ n2_ n3_ n4_ n5_ n6_ ⊢
                   have HO_198000 := n0_
                   have HO_200001 := n1_
                   have BK190 := n2_
                   have BK197 := n3_
                   have BK199 := n4_
                   have BK207 := n5_
                   have HB := n6_
                   clear n0_ n1_ n2_ n3_ n4_ n5_ n6_
                   have n0_ := Aside0.mk (Kd.R_drew HO_198000.out)
                   have n1_ := Aside0.mk (Kd.R_drew HO_200001.out)
                   have n2_ := Aside0.mk (blk_drew BK190.out)
                   have n3_ := Aside0.mk (blk_drew BK197.out)
                   have n4_ := Aside0.mk (blk_drew BK199.out)
                   have n5_ := Aside0.mk (blk_drew BK207.out)
                   have n6_ := Aside0.mk (below_drew1 HB.out)
                   clear HO_198000
                   clear HO_200001
                   clear BK190
                   clear BK197
                   clear BK199
                   clear BK207
                   clear HB
                   have HO_198000 := n0_
                   have HO_200001 := n1_
                   have BK190 := n2_
                   have BK197 := n3_
                   have BK199 := n4_
                   have BK207 := n5_
                   have HB := n6_
                   clear n0_ n1_ n2_ n3_ n4_ n5_ n6_
                   refine start_ (n := 25) (S := fun w' => w'.cell? ⟨gb207, 0, none⟩ = some (.int .u64 t202) ∧ w'.cell? ⟨gb207, 1, none⟩ = some (.int .u64 t203) ∧ w'.cell? ⟨gb207, 2, none⟩ = some (.int .u64 t204) ∧ w'.cell? ⟨gb207, 3, none⟩ = some (.int .u64 t205)) (ds := []) #[false, false, false, false, false, false, false, false, false, false, false, false, false, false, false, false, false, false, false, false, false, false, false, false, false] (by kernel_rfl) rfl rfl ⟨(blk_cell BK207.out 0).trans rfl, (blk_cell BK207.out 1).trans rfl, (blk_cell BK207.out 2).trans rfl, (blk_cell BK207.out 3).trans rfl⟩ (fun hHeld => ?_); refine with_tabW parolelaw04_MerkleBinds.tab14 parolelaw04_MerkleBinds.bits14 (fun HT_ HW_ => ?_)
                   generalize w92.drew = w93 at HO_198000 HO_200001 BK190 BK197 BK199 BK207 HB hHeld ⊢
                   refine pure_ (i := 0) (N := some 83) (v := ?_) (a' := ?_) (bl_15 25 1) rfl rfl (any_of HT_.out (by kernel_rfl)) (fun _ _ _ h => h) (Or.inl ⟨by rfl, ?_⟩) ?_ ?_; rotate_left; (· intro w'; go_simp; with_reducible rfl); rotate_left; (· simp only [Act.put, setIfInBounds_toArray, set_cons_zero, set_cons_succ, i64_w, i32_w]; rfl)
                   refine pure_ (i := 1) (N := some 84) (v := ?_) (a' := ?_) (bl_15 25 3) rfl rfl (any_of HT_.out (by kernel_rfl)) (fun _ _ _ h => h) (Or.inl ⟨by rfl, ?_⟩) ?_ ?_; rotate_left; (· intro w'; go_simp; with_reducible rfl); rotate_left; (· simp only [Act.put, setIfInBounds_toArray, set_cons_zero, set_cons_succ, i64_w, i32_w]; rfl)
                   refine pure_ (i := 2) (N := some 85) (v := ?_) (a' := ?_) (bl_15 25 7) rfl rfl (any_of HT_.out (by kernel_rfl)) (fun _ _ _ h => h) (Or.inl ⟨by rfl, ?_⟩) ?_ ?_; rotate_left; (· intro w'; go_simp; with_reducible rfl); rotate_left; (· simp only [Act.put, setIfInBounds_toArray, set_cons_zero, set_cons_succ, i64_w, i32_w]; rfl)
                   refine pure_ (i := 4) (N := some 87) (v := ?_) (a' := ?_) (bl_15 25 23) rfl rfl (any_of HT_.out (by kernel_rfl)) (fun _ _ _ h => h) (Or.inl ⟨by rfl, ?_⟩) ?_ ?_; rotate_left; (· intro w'; go_simp; with_reducible rfl); rotate_left; (· simp only [Act.put, setIfInBounds_toArray, set_cons_zero, set_cons_succ, i64_w, i32_w]; rfl)
                   refine take_ (i := 3) (N := some 86) (v := ?_) (a' := ?_) (bl_15 25 31) rfl rfl (take_ofW HT_.out HW_.out (by kernel_rfl)) (fun _ _ _ h => h) (Or.inl ⟨by rfl, ?_⟩) hHeld ?_ ?_; rotate_left; (· rintro w' ⟨s0, s1, s2, s3⟩; go_simp; with_reducible rfl); rotate_left; (· simp only [Act.put, setIfInBounds_toArray, set_cons_zero, set_cons_succ, i64_w, i32_w]; rfl)
                   refine take_ (i := 5) (N := some 88) (v := ?_) (a' := ?_) (bl_15 25 63) rfl rfl (take_ofW HT_.out HW_.out (by kernel_rfl)) (fun _ _ _ h => h) (Or.inl ⟨by rfl, ?_⟩) hHeld ?_ ?_; rotate_left; (· rintro w' ⟨s0, s1, s2, s3⟩; go_simp; with_reducible rfl); rotate_left; (· simp only [Act.put, setIfInBounds_toArray, set_cons_zero, set_cons_succ, i64_w, i32_w]; rfl)
                   refine pure_ (i := 6) (N := some 89) (v := ?_) (a' := ?_) (bl_15 25 127) rfl rfl (any_of HT_.out (by kernel_rfl)) (fun _ _ _ h => h) (Or.inl ⟨by rfl, ?_⟩) ?_ ?_; rotate_left; (· intro w'; go_simp; with_reducible rfl); rotate_left; (· simp only [Act.put, setIfInBounds_toArray, set_cons_zero, set_cons_succ, i64_w, i32_w]; rfl)
                   refine pure_ (i := 7) (N := some 90) (v := ?_) (a' := ?_) (bl_15 25 255) rfl rfl (any_of HT_.out (by kernel_rfl)) (fun _ _ _ h => h) (Or.inl ⟨by rfl, ?_⟩) ?_ ?_; rotate_left; (· intro w'; go_simp; with_reducible rfl); rotate_left; (· simp only [Act.put, setIfInBounds_toArray, set_cons_zero, set_cons_succ, i64_w, i32_w]; rfl)
                   refine pure_ (i := 8) (N := some 91) (v := ?_) (a' := ?_) (bl_15 25 511) rfl rfl (any_of HT_.out (by kernel_rfl)) (fun _ _ _ h => h) (Or.inl ⟨by rfl, ?_⟩) ?_ ?_; rotate_left; (· intro w'; go_simp; with_reducible rfl); rotate_left; (· simp only [Act.put, setIfInBounds_toArray, set_cons_zero, set_cons_succ, i64_w, i32_w]; rfl)
                   refine pure_ (i := 9) (N := some 92) (v := ?_) (a' := ?_) (bl_15 25 1023) rfl rfl (any_of HT_.out (by kernel_rfl)) (fun _ _ _ h => h) (Or.inl ⟨by rfl, ?_⟩) ?_ ?_; rotate_left; (· intro w'; go_simp; with_reducible rfl); rotate_left; (· simp only [Act.put, setIfInBounds_toArray, set_cons_zero, set_cons_succ, i64_w, i32_w]; rfl)
                   refine pure_ (i := 11) (N := some 94) (v := ?_) (a' := ?_) (bl_15 25 3071) rfl rfl (any_of HT_.out (by kernel_rfl)) (fun _ _ _ h => h) (Or.inl ⟨by rfl, ?_⟩) ?_ ?_; rotate_left; (· intro w'; go_simp; with_reducible rfl); rotate_left; (· simp only [Act.put, setIfInBounds_toArray, set_cons_zero, set_cons_succ, i64_w, i32_w]; rfl)
                   refine pure_ (i := 12) (N := some 95) (v := ?_) (a' := ?_) (bl_15 25 7167) rfl rfl (any_of HT_.out (by kernel_rfl)) (fun _ _ _ h => h) (Or.inl ⟨by rfl, ?_⟩) ?_ ?_; rotate_left; (· intro w'; go_simp; with_reducible rfl); rotate_left; (· simp only [Act.put, setIfInBounds_toArray, set_cons_zero, set_cons_succ, i64_w, i32_w]; rfl)
                   refine pure_ (i := 15) (N := some 98) (v := ?_) (a' := ?_) (bl_15 25 39935) rfl rfl (any_of HT_.out (by kernel_rfl)) (fun _ _ _ h => h) (Or.inl ⟨by rfl, ?_⟩) ?_ ?_; rotate_left; (· intro w'; go_simp; with_reducible rfl); rotate_left; (· simp only [Act.put, setIfInBounds_toArray, set_cons_zero, set_cons_succ, i64_w, i32_w]; rfl)
                   refine pure_ (i := 16) (N := some 99) (v := ?_) (a' := ?_) (bl_15 25 105471) rfl rfl (any_of HT_.out (by kernel_rfl)) (fun _ _ _ h => h) (Or.inl ⟨by rfl, ?_⟩) ?_ ?_; rotate_left; (· intro w'; go_simp; with_reducible rfl); rotate_left; (· simp only [Act.put, setIfInBounds_toArray, set_cons_zero, set_cons_succ, i64_w, i32_w]; rfl)
                   refine pure_ (i := 18) (N := some 101) (v := ?_) (a' := ?_) (bl_15 25 367615) rfl rfl (any_of HT_.out (by kernel_rfl)) (fun _ _ _ h => h) (Or.inl ⟨by rfl, ?_⟩) ?_ ?_; rotate_left; (· intro w'; go_simp; with_reducible rfl); rotate_left; (· simp only [Act.put, setIfInBounds_toArray, set_cons_zero, set_cons_succ, i64_w, i32_w]; rfl)
                   refine pure_ (i := 19) (N := some 102) (v := ?_) (a' := ?_) (bl_15 25 891903) rfl rfl (any_of HT_.out (by kernel_rfl)) (fun _ _ _ h => h) (Or.inl ⟨by rfl, ?_⟩) ?_ ?_; rotate_left; (· intro w'; go_simp; with_reducible rfl); rotate_left; (· simp only [Act.put, setIfInBounds_toArray, set_cons_zero, set_cons_succ, i64_w, i32_w]; rfl)
                   refine take_ (i := 10) (N := some 93) (v := ?_) (a' := ?_) (bl_15 25 892927) rfl rfl (take_ofW HT_.out HW_.out (by kernel_rfl)) (fun _ _ _ h => h) (Or.inl ⟨by rfl, ?_⟩) hHeld ?_ ?_; rotate_left; (· rintro w' ⟨s0, s1, s2, s3⟩; go_simp; with_reducible rfl); rotate_left; (· simp only [Act.put, setIfInBounds_toArray, set_cons_zero, set_cons_succ, i64_w, i32_w]; rfl)
                   refine take_ (i := 13) (N := some 96) (v := ?_) (a' := ?_) (bl_15 25 901119) rfl rfl (take_ofW HT_.out HW_.out (by kernel_rfl)) (fun _ _ _ h => h) (Or.inl ⟨by rfl, ?_⟩) hHeld ?_ ?_; rotate_left; (· rintro w' ⟨s0, s1, s2, s3⟩; go_simp; with_reducible rfl); rotate_left; (· simp only [Act.put, setIfInBounds_toArray, set_cons_zero, set_cons_succ, i64_w, i32_w]; rfl)
                   refine take_ (i := 17) (N := some 100) (v := ?_) (a' := ?_) (bl_15 25 1032191) rfl rfl (take_ofW HT_.out HW_.out (by kernel_rfl)) (fun _ _ _ h => h) (Or.inl ⟨by rfl, ?_⟩) hHeld ?_ ?_; rotate_left; (· rintro w' ⟨s0, s1, s2, s3⟩; go_simp; with_reducible rfl); rotate_left; (· simp only [Act.put, setIfInBounds_toArray, set_cons_zero, set_cons_succ, i64_w, i32_w]; rfl)
                   refine take_ (i := 20) (N := some 103) (v := ?_) (a' := ?_) (bl_15 25 2080767) rfl rfl (take_ofW HT_.out HW_.out (by kernel_rfl)) (fun _ _ _ h => h) (Or.inl ⟨by rfl, ?_⟩) hHeld ?_ ?_; rotate_left; (· rintro w' ⟨s0, s1, s2, s3⟩; go_simp; with_reducible rfl); rotate_left; (· simp only [Act.put, setIfInBounds_toArray, set_cons_zero, set_cons_succ, i64_w, i32_w]; rfl)
                   refine one_ (i := 14) (N := some 97) (bl_15 25 2097151) rfl rfl (one_of HT_.out (by kernel_rfl)) (by decide) (fun K hK => ?_)
                   refine goes_ Try.func21 (by kernel_rfl) rfl #[.int .u64 t202, .int .u64 t203] (by rfl) rfl rfl (by (try simp only [map_toArray, map_cons, map_nil]); first | done | rfl) ?_
                   with_reducible refine (digest_Join.calls t202 t203 t208 _ A59.out).mono ?_
                   rintro e w' ⟨rfl, ⟨nd, rfl⟩⟩
                   refine ⟨_, rfl, ?_⟩
                   refine hK.out _ _ ⟨(blk_cell BK207.out 0).trans rfl, (blk_cell BK207.out 1).trans rfl, (blk_cell BK207.out 2).trans rfl, (blk_cell BK207.out 3).trans rfl⟩ (fun hHeld => ?_)
                   clear hK K
                   refine norm_ (a' := ?_) ?_ ?_
                   rotate_left
                   ·
                    show Act.put _ (some 97) _ = _
                    simp only [Act.put, setIfInBounds_toArray, set_cons_zero, set_cons_succ, i64_w, i32_w]
                    rfl
                   refine one_ (i := 21) (N := some 104) (bl_15 25 4194303) rfl rfl (one_of HT_.out (by kernel_rfl)) (by decide) (fun K hK => ?_)
                   refine goes_ Try.func21 (by kernel_rfl) rfl #[.int .u64 t204, .int .u64 t205] (by rfl) rfl rfl (by (try simp only [map_toArray, map_cons, map_nil]); first | done | rfl) ?_
                   with_reducible refine (digest_Join.calls t204 t205 t209 _ A60.out).mono ?_
                   rintro e w' ⟨rfl, ⟨nd, rfl⟩⟩
                   refine ⟨_, rfl, ?_⟩
                   refine hK.out _ _ ⟨(blk_cell BK207.out 0).trans rfl, (blk_cell BK207.out 1).trans rfl, (blk_cell BK207.out 2).trans rfl, (blk_cell BK207.out 3).trans rfl⟩ (fun hHeld => ?_)
                   clear hK K
                   refine norm_ (a' := ?_) ?_ ?_
                   rotate_left
                   ·
                    show Act.put _ (some 104) _ = _
                    simp only [Act.put, setIfInBounds_toArray, set_cons_zero, set_cons_succ, i64_w, i32_w]
                    rfl
                   refine pure_ (i := 22) (N := some 105) (v := ?_) (a' := ?_) (bl_15 25 8388607) rfl rfl (any_of HT_.out (by kernel_rfl)) (fun _ _ _ h => h) (Or.inl ⟨by rfl, ?_⟩) ?_ ?_; rotate_left; (· intro w'; go_simp; with_reducible rfl); rotate_left; (· simp only [Act.put, setIfInBounds_toArray, set_cons_zero, set_cons_succ, i64_w, i32_w]; rfl)
                   refine pure_ (i := 23) (N := some 106) (v := ?_) (a' := ?_) (bl_15 25 16777215) rfl rfl (any_of HT_.out (by kernel_rfl)) (fun _ _ _ h => h) (Or.inl ⟨by rfl, ?_⟩) ?_ ?_; rotate_left; (· intro w'; go_simp; with_reducible rfl); rotate_left; (· simp only [Act.put, setIfInBounds_toArray, set_cons_zero, set_cons_succ, i64_w, i32_w]; rfl)
                   refine pure_ (i := 24) (N := some 107) (v := ?_) (a' := ?_) (bl_15 25 33554431) rfl rfl (any_of HT_.out (by kernel_rfl)) (fun _ _ _ h => h) (Or.inl ⟨by rfl, ?_⟩) ?_ ?_; rotate_left; (· intro w'; go_simp; with_reducible rfl); rotate_left; (· simp only [Act.put, setIfInBounds_toArray, set_cons_zero, set_cons_succ, i64_w, i32_w]; rfl)
                   refine done_ (done_of HT_.out (by kernel_rfl)) ?_
                   have hcz94_0 : w93.cell? ⟨gb190, 0, none⟩ = some (.int .u64 a2_0) := (blk_cell BK190.out 0).trans rfl
                   have hcz94_1 : w93.cell? ⟨gb190, 1, none⟩ = some (.slice A2_1 l2_1.length c2_1) := (blk_cell BK190.out 1).trans rfl
                   have hfz94_0 := blk_frozen BK190.out 0
                   have hfz94_1 := blk_frozen BK190.out 1
                   try go_wp2_with (first | ((with_reducible refine gate_callee (f := 35) rfl ?_); refine goesL_ (some 113) rfl rfl Try.func35 (by kernel_rfl) rfl #[.int .u64 t192, .int .i64 (l0.length : Int), .int .i64 ji16, .agg #[.int .u64 a2_0, .slice A2_1 l2_1.length c2_1]] rfl (by (try simp only [map_toArray, map_cons, map_nil]); first | done | (simp only [hji16]; rfl) | rfl) ?_; (with_reducible refine (parolelaw04_check.calls t192 (l0.length : Int) ji16 a2_0 _ _ l2_1 t210 _ ?side1 ?side2 A62.out).mono ?_); (case side1 => repeat (first | exact (Kd.C_below HR2_1.out (by repeat (first | (with_reducible first | exact HB.out | apply below_alloc | apply pw_below_drewN | apply below_drew1 | refine below_set ?_ GE190.out | refine below_set ?_ GE197.out | refine below_set ?_ GE199.out | refine below_set ?_ GE207.out) | exact HB.out))) | (with_reducible refine Kd.C_alloc ?_ _) | (with_reducible refine Kd.C_drewN ?_ _) | (with_reducible refine Kd.C_drew ?_))); (case side2 => exact HC2_1.out); rintro e w95 ⟨rfl, hb⟩; refine ⟨_, rfl, ?_⟩; have n0_ := Aside0.mk (Kd.R_below (by (with_reducible repeat (first | apply Kd.R_alloc | apply Kd.R_drewN | apply Kd.R_drew)); exact HO_198000.out) hb); have n1_ := Aside0.mk (Kd.R_below (by (with_reducible repeat (first | apply Kd.R_alloc | apply Kd.R_drewN | apply Kd.R_drew)); exact HO_200001.out) hb); have n2_ := Aside0.mk (blk_below (g := gb190) (o := .cells #[.int .u64 a2_0, .slice A2_1 l2_1.length c2_1] 50 (0, 0)) (by (with_reducible repeat (first | refine blk_drewN ?_ _ | refine blk_drew ?_ | refine blk_alloc ?_ _)); exact BK190.out) hb); have n3_ := Aside0.mk (blk_below (g := gb197) (o := .cells #[.slice Ao22 t193.length co22, .int .i64 t196] 46 (0, 0)) (by (with_reducible repeat (first | refine blk_drewN ?_ _ | refine blk_drew ?_ | refine blk_alloc ?_ _)); exact BK197.out) hb); have n4_ := Aside0.mk (blk_below (g := gb199) (o := .cells #[.int .u64 (rd l0 (ji16)), .slice Ao22 t193.length co22] 50 (0, 0)) (by (with_reducible repeat (first | refine blk_drewN ?_ _ | refine blk_drew ?_ | refine blk_alloc ?_ _)); exact BK199.out) hb); have n5_ := Aside0.mk (blk_below (g := gb207) (o := .cells #[.int .u64 t202, .int .u64 t203, .int .u64 t204, .int .u64 t205] 60 (0, 0)) (by (with_reducible repeat (first | refine blk_drewN ?_ _ | refine blk_drew ?_ | refine blk_alloc ?_ _)); exact BK207.out) hb); have n6_ := Aside0.mk (below_step (by repeat (first | (with_reducible first | exact HB.out | apply below_alloc | apply pw_below_drewN | apply below_drew1 | refine below_set ?_ GE190.out | refine below_set ?_ GE197.out | refine below_set ?_ GE199.out | refine below_set ?_ GE207.out) | exact HB.out)) hb); clear HO_198000; clear HO_200001; clear BK190; clear BK197; clear BK199; clear BK207; clear HB; have HO_198000 := n0_; have HO_200001 := n1_; have BK190 := n2_; have BK197 := n3_; have BK199 := n4_; have BK207 := n5_; have HB := n6_; clear n0_ n1_ n2_ n3_ n4_ n5_ n6_; (try clear hb); (try clear hb2); (try clear hk); (try clear hi)))
                   go_ret
                   exact ⟨by first | rfl | (simp [errW_none, errW_some] <;> rfl) | (simp only [← hji16]; first | rfl | (simp [errW_none, errW_some] <;> rfl)) | (simp [*, errW_none, errW_some] <;> rfl), by repeat (first | (with_reducible first | exact HB.out | apply below_alloc | apply pw_below_drewN | apply below_drew1 | refine below_set ?_ GE190.out | refine below_set ?_ GE197.out | refine below_set ?_ GE199.out | refine below_set ?_ GE207.out) | exact HB.out)⟩
                ·
                 rw [if_neg c61] at H
                 exact absurd H (by simp)
              ·
               rw [if_neg c57] at H
               have c57b0 : (t202 == t204) = false := beq_eq_false_iff_ne.mpr c57
               have c57b1 : (t202 != t204) = true := bne_iff_ne.mpr c57
               replace H := Option.bind_eq_some_iff.mp H
               obtain ⟨t211, A960, H⟩ := H
               replace H : ((digest_Join.f t204 t205).bind fun t212 => (if t211 = t212 then ((parolelaw04_check.f t192 (l0.length : Int) ji16 a2_0 l2_1).bind fun t213 => (if t213 = 0 then (if x12_41 = true then (none) else (some true)) else (if x12_41 = true then (none) else (some true)))) else (none))) = some r := H
               have A96 := Aside0.mk A960
               clear A960
               replace H := Option.bind_eq_some_iff.mp H
               obtain ⟨t212, A970, H⟩ := H
               replace H : (if t211 = t212 then ((parolelaw04_check.f t192 (l0.length : Int) ji16 a2_0 l2_1).bind fun t213 => (if t213 = 0 then (if x12_41 = true then (none) else (some true)) else (if x12_41 = true then (none) else (some true)))) else (none)) = some r := H
               have A97 := Aside0.mk A970
               clear A970
               by_cases c98 : t211 = t212
               ·
                rw [if_pos c98] at H
                have c98b0 : (t211 == t212) = true := beq_iff_eq.mpr c98
                have c98b1 : (t211 != t212) = false := bne_eq_false_iff_eq.mpr c98
                clear c98
                replace H := Option.bind_eq_some_iff.mp H
                obtain ⟨t213, A990, H⟩ := H
                replace H : (if t213 = 0 then (if x12_41 = true then (none) else (some true)) else (if x12_41 = true then (none) else (some true))) = some r := H
                have A99 := Aside0.mk A990
                clear A990
                by_cases c100 : t213 = 0
                ·
                 rw [if_pos c100] at H
                 have c100b0 : (t213 == 0) = true := beq_iff_eq.mpr c100
                 have c100b1 : (t213 != 0) = false := bne_eq_false_iff_eq.mpr c100
                 clear c100
                 by_cases c101 : x12_41 = true
                 ·
                  subst c101
                  have H1 : (none) = some r := by rw [if_pos rfl] at H; exact H
                  clear H
                  have H := H1
                  clear H1
                  exact absurd H (by simp)
                 ·
                  replace c101 := Bool.eq_false_iff.mpr c101
                  subst c101
                  have H1 : (some true) = some r := by rw [if_neg (show ¬ (false = true) by decide)] at H; exact H
                  clear H
                  have H := H1
                  clear H1
                  obtain rfl := Option.some.inj H
                  have hnb102 := NB199_190.out
                  have hnc102 := NB190_199.out
                  have hnb103 := NB199_197.out
                  have hnc103 := NB197_199.out
                  have hcz104_0 : wc.cell? ⟨gb199, 0, none⟩ = some (.int .u64 (rd l0 (ji16))) := (blk_cell BK199.out 0).trans rfl
                  have hcz104_1 : wc.cell? ⟨gb199, 1, none⟩ = some (.slice Ao22 t193.length co22) := (blk_cell BK199.out 1).trans rfl
                  have hfz104_0 := blk_frozen BK199.out 0
                  have hfz104_1 := blk_frozen BK199.out 1
                  have hnb105 := NB190_197.out
                  have hnc105 := NB197_190.out
                  have hcz106_0 : wc.cell? ⟨gb190, 0, none⟩ = some (.int .u64 a2_0) := (blk_cell BK190.out 0).trans rfl
                  have hcz106_1 : wc.cell? ⟨gb190, 1, none⟩ = some (.slice A2_1 l2_1.length c2_1) := (blk_cell BK190.out 1).trans rfl
                  have hfz106_0 := blk_frozen BK190.out 0
                  have hfz106_1 := blk_frozen BK190.out 1
                  try go_wp2_with (first | ((with_reducible refine gate_callee (f := 40) rfl ?_); refine goesL_ (some 80) rfl rfl Try.func40 (by kernel_rfl) rfl #[.int .i64 (l0.length : Int), .int .i64 ji16, .agg #[.int .u64 (rd l0 (ji16)), .slice Ao22 t193.length co22], .agg #[.int .u64 a2_0, .slice A2_1 l2_1.length c2_1]] rfl (by (try simp only [map_toArray, map_cons, map_nil]); first | done | (simp only [hji16]; rfl) | rfl) ?_; (with_reducible refine (merkle_Collide.calls kj41 (l0.length : Int) ji16 (rd l0 (ji16)) _ _ t193 a2_0 _ _ l2_1 t202 t203 t204 t205 true _ ?side1 ?side2 ?side3 ?side4 A55.out).mono ?_); (case side1 => repeat (first | exact (Kd.R_reads' HO_200001.out).2.2 | (with_reducible refine Kd.C_alloc ?_ _) | (with_reducible refine Kd.C_drewN ?_ _) | (with_reducible refine Kd.C_drew ?_))); (case side2 => exact (Kd.R_reads' HO_200001.out).2.1); (case side3 => repeat (first | exact (Kd.C_below HR2_1.out HB.out) | (with_reducible refine Kd.C_alloc ?_ _) | (with_reducible refine Kd.C_drewN ?_ _) | (with_reducible refine Kd.C_drew ?_))); (case side4 => exact HC2_1.out); rintro e w107 ⟨rfl, hb⟩; refine ⟨_, rfl, ?_⟩; have n0_ := Aside0.mk (Kd.R_below (by (with_reducible repeat (first | apply Kd.R_alloc | apply Kd.R_drewN | apply Kd.R_drew)); exact HO_198000.out) hb); have n1_ := Aside0.mk (Kd.R_below (by (with_reducible repeat (first | apply Kd.R_alloc | apply Kd.R_drewN | apply Kd.R_drew)); exact HO_200001.out) hb); have n2_ := Aside0.mk (blk_below (g := gb190) (o := .cells #[.int .u64 a2_0, .slice A2_1 l2_1.length c2_1] 50 (0, 0)) (by (with_reducible repeat (first | refine blk_drewN ?_ _ | refine blk_drew ?_ | refine blk_alloc ?_ _)); exact BK190.out) hb); have n3_ := Aside0.mk (blk_below (g := gb197) (o := .cells #[.slice Ao22 t193.length co22, .int .i64 t196] 46 (0, 0)) (by (with_reducible repeat (first | refine blk_drewN ?_ _ | refine blk_drew ?_ | refine blk_alloc ?_ _)); exact BK197.out) hb); have n4_ := Aside0.mk (blk_below (g := gb199) (o := .cells #[.int .u64 (rd l0 (ji16)), .slice Ao22 t193.length co22] 50 (0, 0)) (by (with_reducible repeat (first | refine blk_drewN ?_ _ | refine blk_drew ?_ | refine blk_alloc ?_ _)); exact BK199.out) hb); have n5_ := Aside0.mk (below_step (by repeat (first | (with_reducible first | exact HB.out | apply below_alloc | apply pw_below_drewN | apply below_drew1 | refine below_set ?_ GE190.out | refine below_set ?_ GE197.out | refine below_set ?_ GE199.out) | exact HB.out)) hb); clear HO_198000; clear HO_200001; clear BK190; clear BK197; clear BK199; clear HB; have HO_198000 := n0_; have HO_200001 := n1_; have BK190 := n2_; have BK197 := n3_; have BK199 := n4_; have HB := n5_; clear n0_ n1_ n2_ n3_ n4_ n5_; (try clear hb); (try clear hb2); (try clear hk); (try clear hi)) | ((with_reducible refine gate_dst (N := 13) rfl ?_); (try (refine gate_guard (by rfl) ?_; dsimp only)); refine box_event ?hg (N := 13) ?hd (cs := #[.int .u64 0, .int .u64 0, .int .u64 0, .int .u64 0]) (t := 60) ?hr ?_; (case hd => rfl); (case hg => rfl); (case hr => first | (go_simp; done) | (go_simp; rfl)); intro gb207 hg w108 hbox hb; have n0_ := Aside0.mk (Kd.R_below (by (with_reducible repeat (first | apply Kd.R_alloc | apply Kd.R_drewN | apply Kd.R_drew)); exact HO_198000.out) hb); have n1_ := Aside0.mk (Kd.R_below (by (with_reducible repeat (first | apply Kd.R_alloc | apply Kd.R_drewN | apply Kd.R_drew)); exact HO_200001.out) hb); have n2_ := Aside0.mk (blk_below (g := gb190) (o := .cells #[.int .u64 a2_0, .slice A2_1 l2_1.length c2_1] 50 (0, 0)) (by (with_reducible repeat (first | refine blk_drewN ?_ _ | refine blk_drew ?_ | refine blk_alloc ?_ _)); exact BK190.out) hb); have n3_ := Aside0.mk (blk_below (g := gb197) (o := .cells #[.slice Ao22 t193.length co22, .int .i64 t196] 46 (0, 0)) (by (with_reducible repeat (first | refine blk_drewN ?_ _ | refine blk_drew ?_ | refine blk_alloc ?_ _)); exact BK197.out) hb); have n4_ := Aside0.mk (blk_below (g := gb199) (o := .cells #[.int .u64 (rd l0 (ji16)), .slice Ao22 t193.length co22] 50 (0, 0)) (by (with_reducible repeat (first | refine blk_drewN ?_ _ | refine blk_drew ?_ | refine blk_alloc ?_ _)); exact BK199.out) hb); have n5_ := Aside0.mk (below_step (by repeat (first | (with_reducible first | exact HB.out | apply below_alloc | apply pw_below_drewN | apply below_drew1 | refine below_set ?_ GE190.out | refine below_set ?_ GE197.out | refine below_set ?_ GE199.out) | exact HB.out)) hb); have n6_ := Aside0.mk (hbox); have n7_ := Aside0.mk ((by rw [hg]; exact (below_size (by repeat (first | (with_reducible first | exact HB.out | apply below_alloc | apply pw_below_drewN | apply below_drew1 | refine below_set ?_ GE190.out | refine below_set ?_ GE197.out | refine below_set ?_ GE199.out) | exact HB.out))) : w.heap.size ≤ gb207)); have n8_ := Aside0.mk ((by rw [hg]; exact (below_size (by repeat (first | (with_reducible first | exact HB.out | apply below_alloc | apply pw_below_drewN | apply below_drew1 | refine below_set ?_ GE190.out | refine below_set ?_ GE197.out | refine below_set ?_ GE199.out) | exact HB.out))) : w.heap.size ≤ gb207)); have n9_ := Aside0.mk ((by rw [hg]; exact Nat.ne_of_lt (blk_lt (g := gb190) (o := .cells #[.int .u64 a2_0, .slice A2_1 l2_1.length c2_1] 50 (0, 0)) (by (with_reducible repeat (first | refine blk_drewN ?_ _ | refine blk_drew ?_ | refine blk_alloc ?_ _)); exact BK190.out)) : gb190 ≠ gb207)); have n10_ := Aside0.mk ((by rw [hg]; exact Nat.ne_of_gt (blk_lt (g := gb190) (o := .cells #[.int .u64 a2_0, .slice A2_1 l2_1.length c2_1] 50 (0, 0)) (by (with_reducible repeat (first | refine blk_drewN ?_ _ | refine blk_drew ?_ | refine blk_alloc ?_ _)); exact BK190.out)) : gb207 ≠ gb190)); have n11_ := Aside0.mk ((by rw [hg]; exact Nat.ne_of_lt (blk_lt (g := gb197) (o := .cells #[.slice Ao22 t193.length co22, .int .i64 t196] 46 (0, 0)) (by (with_reducible repeat (first | refine blk_drewN ?_ _ | refine blk_drew ?_ | refine blk_alloc ?_ _)); exact BK197.out)) : gb197 ≠ gb207)); have n12_ := Aside0.mk ((by rw [hg]; exact Nat.ne_of_gt (blk_lt (g := gb197) (o := .cells #[.slice Ao22 t193.length co22, .int .i64 t196] 46 (0, 0)) (by (with_reducible repeat (first | refine blk_drewN ?_ _ | refine blk_drew ?_ | refine blk_alloc ?_ _)); exact BK197.out)) : gb207 ≠ gb197)); have n13_ := Aside0.mk ((by rw [hg]; exact Nat.ne_of_lt (blk_lt (g := gb199) (o := .cells #[.int .u64 (rd l0 (ji16)), .slice Ao22 t193.length co22] 50 (0, 0)) (by (with_reducible repeat (first | refine blk_drewN ?_ _ | refine blk_drew ?_ | refine blk_alloc ?_ _)); exact BK199.out)) : gb199 ≠ gb207)); have n14_ := Aside0.mk ((by rw [hg]; exact Nat.ne_of_gt (blk_lt (g := gb199) (o := .cells #[.int .u64 (rd l0 (ji16)), .slice Ao22 t193.length co22] 50 (0, 0)) (by (with_reducible repeat (first | refine blk_drewN ?_ _ | refine blk_drew ?_ | refine blk_alloc ?_ _)); exact BK199.out)) : gb207 ≠ gb199)); clear HO_198000; clear HO_200001; clear BK190; clear BK197; clear BK199; clear HB; have HO_198000 := n0_; have HO_200001 := n1_; have BK190 := n2_; have BK197 := n3_; have BK199 := n4_; have HB := n5_; have BK207 := n6_; have GW207 := n7_; have GE207 := n8_; have NB190_207 := n9_; have NB207_190 := n10_; have NB197_207 := n11_; have NB207_197 := n12_; have NB199_207 := n13_; have NB207_199 := n14_; clear n0_ n1_ n2_ n3_ n4_ n5_ n6_ n7_ n8_ n9_ n10_ n11_ n12_ n13_ n14_; clear hb hbox hg; have hnb109 := NB207_190.out; have hnc109 := NB190_207.out; have hnb110 := NB207_197.out; have hnc110 := NB197_207.out; have hnb111 := NB207_199.out; have hnc111 := NB199_207.out; have hcz112_0 : w108.cell? ⟨gb207, 0, none⟩ = some (.int .u64 0) := (blk_cell BK207.out 0).trans rfl; have hcz112_1 : w108.cell? ⟨gb207, 1, none⟩ = some (.int .u64 0) := (blk_cell BK207.out 1).trans rfl; have hcz112_2 : w108.cell? ⟨gb207, 2, none⟩ = some (.int .u64 0) := (blk_cell BK207.out 2).trans rfl; have hcz112_3 : w108.cell? ⟨gb207, 3, none⟩ = some (.int .u64 0) := (blk_cell BK207.out 3).trans rfl; have hfz112_0 := blk_frozen BK207.out 0; have hfz112_1 := blk_frozen BK207.out 1; have hfz112_2 := blk_frozen BK207.out 2; have hfz112_3 := blk_frozen BK207.out 3))
                  have n0_ : Aside0 (Kd.R (Kd.int .u64) 22 ((((w108.setCell ⟨gb207, 0, none⟩ (.int .u64 t202)).setCell ⟨gb207, 1, none⟩ (.int .u64 t203)).setCell ⟨gb207, 2, none⟩ (.int .u64 t204)).setCell ⟨gb207, 3, none⟩ (.int .u64 t205)) w.heap.size (fun _ => True) (.slice Ao22 t193.length co22) t193) := ⟨by (with_reducible repeat (first | apply Kd.R_alloc | apply Kd.R_drewN | apply Kd.R_drew)); exact Kd.R_mono (Kd.R_far (p := ⟨gb207, 3, none⟩) (Kd.R_far (p := ⟨gb207, 2, none⟩) (Kd.R_far (p := ⟨gb207, 1, none⟩) (Kd.R_far (p := ⟨gb207, 0, none⟩) (Kd.R_types HO_198000.out BK207.out (by decide)) (fun _ hk => by first | exact hk.2 | exact hk | exact ⟨hk.2, hk.1⟩ | simp_all) (.int .u64 t202)) (fun _ hk => by first | exact hk.2 | exact hk | exact ⟨hk.2, hk.1⟩ | simp_all) (.int .u64 t203)) (fun _ hk => by first | exact hk.2 | exact hk | exact ⟨hk.2, hk.1⟩ | simp_all) (.int .u64 t204)) (fun _ hk => by first | exact hk.2 | exact hk | exact ⟨hk.2, hk.1⟩ | simp_all) (.int .u64 t205)) (fun _ hk => trivial)⟩
                  have n1_ : Aside0 (Kd.R (Kd.int .u64) 22 ((((w108.setCell ⟨gb207, 0, none⟩ (.int .u64 t202)).setCell ⟨gb207, 1, none⟩ (.int .u64 t203)).setCell ⟨gb207, 2, none⟩ (.int .u64 t204)).setCell ⟨gb207, 3, none⟩ (.int .u64 t205)) w.heap.size (fun _ => True) (.slice Ao22 t193.length co22) t193) := ⟨by (with_reducible repeat (first | apply Kd.R_alloc | apply Kd.R_drewN | apply Kd.R_drew)); exact Kd.R_mono (Kd.R_far (p := ⟨gb207, 3, none⟩) (Kd.R_far (p := ⟨gb207, 2, none⟩) (Kd.R_far (p := ⟨gb207, 1, none⟩) (Kd.R_far (p := ⟨gb207, 0, none⟩) (Kd.R_types HO_200001.out BK207.out (by decide)) (fun _ hk => by first | exact hk.2 | exact hk | exact ⟨hk.2, hk.1⟩ | simp_all) (.int .u64 t202)) (fun _ hk => by first | exact hk.2 | exact hk | exact ⟨hk.2, hk.1⟩ | simp_all) (.int .u64 t203)) (fun _ hk => by first | exact hk.2 | exact hk | exact ⟨hk.2, hk.1⟩ | simp_all) (.int .u64 t204)) (fun _ hk => by first | exact hk.2 | exact hk | exact ⟨hk.2, hk.1⟩ | simp_all) (.int .u64 t205)) (fun _ hk => trivial)⟩
                  have n2_ : Aside0 (((((w108.setCell ⟨gb207, 0, none⟩ (.int .u64 t202)).setCell ⟨gb207, 1, none⟩ (.int .u64 t203)).setCell ⟨gb207, 2, none⟩ (.int .u64 t204)).setCell ⟨gb207, 3, none⟩ (.int .u64 t205)).heap[gb190]? = some (.cells #[.int .u64 a2_0, .slice A2_1 l2_1.length c2_1] 50 (0, 0))) := ⟨by (with_reducible repeat (first | refine blk_drewN ?_ _ | refine blk_drew ?_ | refine blk_alloc ?_ _)); refine blk_far ?_ NB190_207.out _; (with_reducible repeat (first | refine blk_drewN ?_ _ | refine blk_drew ?_ | refine blk_alloc ?_ _)); refine blk_far ?_ NB190_207.out _; (with_reducible repeat (first | refine blk_drewN ?_ _ | refine blk_drew ?_ | refine blk_alloc ?_ _)); refine blk_far ?_ NB190_207.out _; (with_reducible repeat (first | refine blk_drewN ?_ _ | refine blk_drew ?_ | refine blk_alloc ?_ _)); refine blk_far ?_ NB190_207.out _; (with_reducible repeat (first | refine blk_drewN ?_ _ | refine blk_drew ?_ | refine blk_alloc ?_ _)); exact BK190.out⟩
                  have n3_ : Aside0 (((((w108.setCell ⟨gb207, 0, none⟩ (.int .u64 t202)).setCell ⟨gb207, 1, none⟩ (.int .u64 t203)).setCell ⟨gb207, 2, none⟩ (.int .u64 t204)).setCell ⟨gb207, 3, none⟩ (.int .u64 t205)).heap[gb197]? = some (.cells #[.slice Ao22 t193.length co22, .int .i64 t196] 46 (0, 0))) := ⟨by (with_reducible repeat (first | refine blk_drewN ?_ _ | refine blk_drew ?_ | refine blk_alloc ?_ _)); refine blk_far ?_ NB197_207.out _; (with_reducible repeat (first | refine blk_drewN ?_ _ | refine blk_drew ?_ | refine blk_alloc ?_ _)); refine blk_far ?_ NB197_207.out _; (with_reducible repeat (first | refine blk_drewN ?_ _ | refine blk_drew ?_ | refine blk_alloc ?_ _)); refine blk_far ?_ NB197_207.out _; (with_reducible repeat (first | refine blk_drewN ?_ _ | refine blk_drew ?_ | refine blk_alloc ?_ _)); refine blk_far ?_ NB197_207.out _; (with_reducible repeat (first | refine blk_drewN ?_ _ | refine blk_drew ?_ | refine blk_alloc ?_ _)); exact BK197.out⟩
                  have n4_ : Aside0 (((((w108.setCell ⟨gb207, 0, none⟩ (.int .u64 t202)).setCell ⟨gb207, 1, none⟩ (.int .u64 t203)).setCell ⟨gb207, 2, none⟩ (.int .u64 t204)).setCell ⟨gb207, 3, none⟩ (.int .u64 t205)).heap[gb199]? = some (.cells #[.int .u64 (rd l0 (ji16)), .slice Ao22 t193.length co22] 50 (0, 0))) := ⟨by (with_reducible repeat (first | refine blk_drewN ?_ _ | refine blk_drew ?_ | refine blk_alloc ?_ _)); refine blk_far ?_ NB199_207.out _; (with_reducible repeat (first | refine blk_drewN ?_ _ | refine blk_drew ?_ | refine blk_alloc ?_ _)); refine blk_far ?_ NB199_207.out _; (with_reducible repeat (first | refine blk_drewN ?_ _ | refine blk_drew ?_ | refine blk_alloc ?_ _)); refine blk_far ?_ NB199_207.out _; (with_reducible repeat (first | refine blk_drewN ?_ _ | refine blk_drew ?_ | refine blk_alloc ?_ _)); refine blk_far ?_ NB199_207.out _; (with_reducible repeat (first | refine blk_drewN ?_ _ | refine blk_drew ?_ | refine blk_alloc ?_ _)); exact BK199.out⟩
                  have n5_ : Aside0 (((((w108.setCell ⟨gb207, 0, none⟩ (.int .u64 t202)).setCell ⟨gb207, 1, none⟩ (.int .u64 t203)).setCell ⟨gb207, 2, none⟩ (.int .u64 t204)).setCell ⟨gb207, 3, none⟩ (.int .u64 t205)).heap[gb207]? = some (.cells #[.int .u64 t202, .int .u64 t203, .int .u64 t204, .int .u64 t205] 60 (0, 0))) := ⟨by (with_reducible repeat (first | refine blk_drewN ?_ _ | refine blk_drew ?_ | refine blk_alloc ?_ _)); refine blk_put (cs := #[.int .u64 t202, .int .u64 t203, .int .u64 t204, .int .u64 0]) ?_ 3 _ rfl; (with_reducible repeat (first | refine blk_drewN ?_ _ | refine blk_drew ?_ | refine blk_alloc ?_ _)); refine blk_put (cs := #[.int .u64 t202, .int .u64 t203, .int .u64 0, .int .u64 0]) ?_ 2 _ rfl; (with_reducible repeat (first | refine blk_drewN ?_ _ | refine blk_drew ?_ | refine blk_alloc ?_ _)); refine blk_put (cs := #[.int .u64 t202, .int .u64 0, .int .u64 0, .int .u64 0]) ?_ 1 _ rfl; (with_reducible repeat (first | refine blk_drewN ?_ _ | refine blk_drew ?_ | refine blk_alloc ?_ _)); refine blk_put (cs := #[.int .u64 0, .int .u64 0, .int .u64 0, .int .u64 0]) ?_ 0 _ rfl; (with_reducible repeat (first | refine blk_drewN ?_ _ | refine blk_drew ?_ | refine blk_alloc ?_ _)); exact BK207.out⟩
                  have n6_ : Aside0 (Below w.heap.size w ((((w108.setCell ⟨gb207, 0, none⟩ (.int .u64 t202)).setCell ⟨gb207, 1, none⟩ (.int .u64 t203)).setCell ⟨gb207, 2, none⟩ (.int .u64 t204)).setCell ⟨gb207, 3, none⟩ (.int .u64 t205))) := ⟨by repeat (first | (with_reducible first | exact HB.out | apply below_alloc | apply pw_below_drewN | apply below_drew1 | refine below_set ?_ GE190.out | refine below_set ?_ GE197.out | refine below_set ?_ GE199.out | refine below_set ?_ GE207.out) | exact HB.out)⟩
                  (try clear HO_198000)
                  (try clear HO_200001)
                  (try clear BK190)
                  (try clear BK197)
                  (try clear BK199)
                  (try clear BK207)
                  (try clear HB)
                  generalize ((((w108.setCell ⟨gb207, 0, none⟩ (.int .u64 t202)).setCell ⟨gb207, 1, none⟩ (.int .u64 t203)).setCell ⟨gb207, 2, none⟩ (.int .u64 t204)).setCell ⟨gb207, 3, none⟩ (.int .u64 t205)) = w113 at n0_ n1_ n2_ n3_ n4_ n5_ n6_ ⊢
                  have HO_198000 := n0_
                  have HO_200001 := n1_
                  have BK190 := n2_
                  have BK197 := n3_
                  have BK199 := n4_
                  have BK207 := n5_
                  have HB := n6_
                  clear n0_ n1_ n2_ n3_ n4_ n5_ n6_
                  have n0_ := Aside0.mk (Kd.R_drew HO_198000.out)
                  have n1_ := Aside0.mk (Kd.R_drew HO_200001.out)
                  have n2_ := Aside0.mk (blk_drew BK190.out)
                  have n3_ := Aside0.mk (blk_drew BK197.out)
                  have n4_ := Aside0.mk (blk_drew BK199.out)
                  have n5_ := Aside0.mk (blk_drew BK207.out)
                  have n6_ := Aside0.mk (below_drew1 HB.out)
                  clear HO_198000
                  clear HO_200001
                  clear BK190
                  clear BK197
                  clear BK199
                  clear BK207
                  clear HB
                  have HO_198000 := n0_
                  have HO_200001 := n1_
                  have BK190 := n2_
                  have BK197 := n3_
                  have BK199 := n4_
                  have BK207 := n5_
                  have HB := n6_
                  clear n0_ n1_ n2_ n3_ n4_ n5_ n6_
                  refine start_ (n := 25) (S := fun w' => w'.cell? ⟨gb207, 0, none⟩ = some (.int .u64 t202) ∧ w'.cell? ⟨gb207, 1, none⟩ = some (.int .u64 t203) ∧ w'.cell? ⟨gb207, 2, none⟩ = some (.int .u64 t204) ∧ w'.cell? ⟨gb207, 3, none⟩ = some (.int .u64 t205)) (ds := []) #[false, false, false, false, false, false, false, false, false, false, false, false, false, false, false, false, false, false, false, false, false, false, false, false, false] (by kernel_rfl) rfl rfl ⟨(blk_cell BK207.out 0).trans rfl, (blk_cell BK207.out 1).trans rfl, (blk_cell BK207.out 2).trans rfl, (blk_cell BK207.out 3).trans rfl⟩ (fun hHeld => ?_); refine with_tabW parolelaw04_MerkleBinds.tab14 parolelaw04_MerkleBinds.bits14 (fun HT_ HW_ => ?_)
                  generalize w113.drew = w114 at HO_198000 HO_200001 BK190 BK197 BK199 BK207 HB hHeld ⊢
                  refine pure_ (i := 0) (N := some 83) (v := ?_) (a' := ?_) (bl_15 25 1) rfl rfl (any_of HT_.out (by kernel_rfl)) (fun _ _ _ h => h) (Or.inl ⟨by rfl, ?_⟩) ?_ ?_; rotate_left; (· intro w'; go_simp; with_reducible rfl); rotate_left; (· simp only [Act.put, setIfInBounds_toArray, set_cons_zero, set_cons_succ, i64_w, i32_w]; rfl)
                  refine pure_ (i := 1) (N := some 84) (v := ?_) (a' := ?_) (bl_15 25 3) rfl rfl (any_of HT_.out (by kernel_rfl)) (fun _ _ _ h => h) (Or.inl ⟨by rfl, ?_⟩) ?_ ?_; rotate_left; (· intro w'; go_simp; with_reducible rfl); rotate_left; (· simp only [Act.put, setIfInBounds_toArray, set_cons_zero, set_cons_succ, i64_w, i32_w]; rfl)
                  refine pure_ (i := 2) (N := some 85) (v := ?_) (a' := ?_) (bl_15 25 7) rfl rfl (any_of HT_.out (by kernel_rfl)) (fun _ _ _ h => h) (Or.inl ⟨by rfl, ?_⟩) ?_ ?_; rotate_left; (· intro w'; go_simp; with_reducible rfl); rotate_left; (· simp only [Act.put, setIfInBounds_toArray, set_cons_zero, set_cons_succ, i64_w, i32_w]; rfl)
                  refine pure_ (i := 4) (N := some 87) (v := ?_) (a' := ?_) (bl_15 25 23) rfl rfl (any_of HT_.out (by kernel_rfl)) (fun _ _ _ h => h) (Or.inl ⟨by rfl, ?_⟩) ?_ ?_; rotate_left; (· intro w'; go_simp; with_reducible rfl); rotate_left; (· simp only [Act.put, setIfInBounds_toArray, set_cons_zero, set_cons_succ, i64_w, i32_w]; rfl)
                  refine take_ (i := 3) (N := some 86) (v := ?_) (a' := ?_) (bl_15 25 31) rfl rfl (take_ofW HT_.out HW_.out (by kernel_rfl)) (fun _ _ _ h => h) (Or.inl ⟨by rfl, ?_⟩) hHeld ?_ ?_; rotate_left; (· rintro w' ⟨s0, s1, s2, s3⟩; go_simp; with_reducible rfl); rotate_left; (· simp only [Act.put, setIfInBounds_toArray, set_cons_zero, set_cons_succ, i64_w, i32_w]; rfl)
                  refine take_ (i := 5) (N := some 88) (v := ?_) (a' := ?_) (bl_15 25 63) rfl rfl (take_ofW HT_.out HW_.out (by kernel_rfl)) (fun _ _ _ h => h) (Or.inl ⟨by rfl, ?_⟩) hHeld ?_ ?_; rotate_left; (· rintro w' ⟨s0, s1, s2, s3⟩; go_simp; with_reducible rfl); rotate_left; (· simp only [Act.put, setIfInBounds_toArray, set_cons_zero, set_cons_succ, i64_w, i32_w]; rfl)
                  refine pure_ (i := 6) (N := some 89) (v := ?_) (a' := ?_) (bl_15 25 127) rfl rfl (any_of HT_.out (by kernel_rfl)) (fun _ _ _ h => h) (Or.inl ⟨by rfl, ?_⟩) ?_ ?_; rotate_left; (· intro w'; go_simp; with_reducible rfl); rotate_left; (· simp only [Act.put, setIfInBounds_toArray, set_cons_zero, set_cons_succ, i64_w, i32_w]; rfl)
                  refine pure_ (i := 7) (N := some 90) (v := ?_) (a' := ?_) (bl_15 25 255) rfl rfl (any_of HT_.out (by kernel_rfl)) (fun _ _ _ h => h) (Or.inl ⟨by rfl, ?_⟩) ?_ ?_; rotate_left; (· intro w'; go_simp; with_reducible rfl); rotate_left; (· simp only [Act.put, setIfInBounds_toArray, set_cons_zero, set_cons_succ, i64_w, i32_w]; rfl)
                  refine pure_ (i := 8) (N := some 91) (v := ?_) (a' := ?_) (bl_15 25 511) rfl rfl (any_of HT_.out (by kernel_rfl)) (fun _ _ _ h => h) (Or.inl ⟨by rfl, ?_⟩) ?_ ?_; rotate_left; (· intro w'; go_simp; with_reducible rfl); rotate_left; (· simp only [Act.put, setIfInBounds_toArray, set_cons_zero, set_cons_succ, i64_w, i32_w]; rfl)
                  refine pure_ (i := 9) (N := some 92) (v := ?_) (a' := ?_) (bl_15 25 1023) rfl rfl (any_of HT_.out (by kernel_rfl)) (fun _ _ _ h => h) (Or.inl ⟨by rfl, ?_⟩) ?_ ?_; rotate_left; (· intro w'; go_simp; with_reducible rfl); rotate_left; (· simp only [Act.put, setIfInBounds_toArray, set_cons_zero, set_cons_succ, i64_w, i32_w]; rfl)
                  refine pure_ (i := 11) (N := some 94) (v := ?_) (a' := ?_) (bl_15 25 3071) rfl rfl (any_of HT_.out (by kernel_rfl)) (fun _ _ _ h => h) (Or.inl ⟨by rfl, ?_⟩) ?_ ?_; rotate_left; (· intro w'; go_simp; with_reducible rfl); rotate_left; (· simp only [Act.put, setIfInBounds_toArray, set_cons_zero, set_cons_succ, i64_w, i32_w]; rfl)
                  refine pure_ (i := 12) (N := some 95) (v := ?_) (a' := ?_) (bl_15 25 7167) rfl rfl (any_of HT_.out (by kernel_rfl)) (fun _ _ _ h => h) (Or.inl ⟨by rfl, ?_⟩) ?_ ?_; rotate_left; (· intro w'; go_simp; with_reducible rfl); rotate_left; (· simp only [Act.put, setIfInBounds_toArray, set_cons_zero, set_cons_succ, i64_w, i32_w]; rfl)
                  refine pure_ (i := 15) (N := some 98) (v := ?_) (a' := ?_) (bl_15 25 39935) rfl rfl (any_of HT_.out (by kernel_rfl)) (fun _ _ _ h => h) (Or.inl ⟨by rfl, ?_⟩) ?_ ?_; rotate_left; (· intro w'; go_simp; with_reducible rfl); rotate_left; (· simp only [Act.put, setIfInBounds_toArray, set_cons_zero, set_cons_succ, i64_w, i32_w]; rfl)
                  refine pure_ (i := 16) (N := some 99) (v := ?_) (a' := ?_) (bl_15 25 105471) rfl rfl (any_of HT_.out (by kernel_rfl)) (fun _ _ _ h => h) (Or.inl ⟨by rfl, ?_⟩) ?_ ?_; rotate_left; (· intro w'; go_simp; with_reducible rfl); rotate_left; (· simp only [Act.put, setIfInBounds_toArray, set_cons_zero, set_cons_succ, i64_w, i32_w]; rfl)
                  refine pure_ (i := 18) (N := some 101) (v := ?_) (a' := ?_) (bl_15 25 367615) rfl rfl (any_of HT_.out (by kernel_rfl)) (fun _ _ _ h => h) (Or.inl ⟨by rfl, ?_⟩) ?_ ?_; rotate_left; (· intro w'; go_simp; with_reducible rfl); rotate_left; (· simp only [Act.put, setIfInBounds_toArray, set_cons_zero, set_cons_succ, i64_w, i32_w]; rfl)
                  refine pure_ (i := 19) (N := some 102) (v := ?_) (a' := ?_) (bl_15 25 891903) rfl rfl (any_of HT_.out (by kernel_rfl)) (fun _ _ _ h => h) (Or.inl ⟨by rfl, ?_⟩) ?_ ?_; rotate_left; (· intro w'; go_simp; with_reducible rfl); rotate_left; (· simp only [Act.put, setIfInBounds_toArray, set_cons_zero, set_cons_succ, i64_w, i32_w]; rfl)
                  refine take_ (i := 10) (N := some 93) (v := ?_) (a' := ?_) (bl_15 25 892927) rfl rfl (take_ofW HT_.out HW_.out (by kernel_rfl)) (fun _ _ _ h => h) (Or.inl ⟨by rfl, ?_⟩) hHeld ?_ ?_; rotate_left; (· rintro w' ⟨s0, s1, s2, s3⟩; go_simp; with_reducible rfl); rotate_left; (· simp only [Act.put, setIfInBounds_toArray, set_cons_zero, set_cons_succ, i64_w, i32_w]; rfl)
                  refine take_ (i := 13) (N := some 96) (v := ?_) (a' := ?_) (bl_15 25 901119) rfl rfl (take_ofW HT_.out HW_.out (by kernel_rfl)) (fun _ _ _ h => h) (Or.inl ⟨by rfl, ?_⟩) hHeld ?_ ?_; rotate_left; (· rintro w' ⟨s0, s1, s2, s3⟩; go_simp; with_reducible rfl); rotate_left; (· simp only [Act.put, setIfInBounds_toArray, set_cons_zero, set_cons_succ, i64_w, i32_w]; rfl)
                  refine take_ (i := 17) (N := some 100) (v := ?_) (a' := ?_) (bl_15 25 1032191) rfl rfl (take_ofW HT_.out HW_.out (by kernel_rfl)) (fun _ _ _ h => h) (Or.inl ⟨by rfl, ?_⟩) hHeld ?_ ?_; rotate_left; (· rintro w' ⟨s0, s1, s2, s3⟩; go_simp; with_reducible rfl); rotate_left; (· simp only [Act.put, setIfInBounds_toArray, set_cons_zero, set_cons_succ, i64_w, i32_w]; rfl)
                  refine take_ (i := 20) (N := some 103) (v := ?_) (a' := ?_) (bl_15 25 2080767) rfl rfl (take_ofW HT_.out HW_.out (by kernel_rfl)) (fun _ _ _ h => h) (Or.inl ⟨by rfl, ?_⟩) hHeld ?_ ?_; rotate_left; (· rintro w' ⟨s0, s1, s2, s3⟩; go_simp; with_reducible rfl); rotate_left; (· simp only [Act.put, setIfInBounds_toArray, set_cons_zero, set_cons_succ, i64_w, i32_w]; rfl)
                  refine one_ (i := 14) (N := some 97) (bl_15 25 2097151) rfl rfl (one_of HT_.out (by kernel_rfl)) (by decide) (fun K hK => ?_)
                  refine goes_ Try.func21 (by kernel_rfl) rfl #[.int .u64 t202, .int .u64 t203] (by rfl) rfl rfl (by (try simp only [map_toArray, map_cons, map_nil]); first | done | rfl) ?_
                  with_reducible refine (digest_Join.calls t202 t203 t211 _ A96.out).mono ?_
                  rintro e w' ⟨rfl, ⟨nd, rfl⟩⟩
                  refine ⟨_, rfl, ?_⟩
                  refine hK.out _ _ ⟨(blk_cell BK207.out 0).trans rfl, (blk_cell BK207.out 1).trans rfl, (blk_cell BK207.out 2).trans rfl, (blk_cell BK207.out 3).trans rfl⟩ (fun hHeld => ?_)
                  clear hK K
                  refine norm_ (a' := ?_) ?_ ?_
                  rotate_left
                  ·
                   show Act.put _ (some 97) _ = _
                   simp only [Act.put, setIfInBounds_toArray, set_cons_zero, set_cons_succ, i64_w, i32_w]
                   rfl
                  refine one_ (i := 21) (N := some 104) (bl_15 25 4194303) rfl rfl (one_of HT_.out (by kernel_rfl)) (by decide) (fun K hK => ?_)
                  refine goes_ Try.func21 (by kernel_rfl) rfl #[.int .u64 t204, .int .u64 t205] (by rfl) rfl rfl (by (try simp only [map_toArray, map_cons, map_nil]); first | done | rfl) ?_
                  with_reducible refine (digest_Join.calls t204 t205 t212 _ A97.out).mono ?_
                  rintro e w' ⟨rfl, ⟨nd, rfl⟩⟩
                  refine ⟨_, rfl, ?_⟩
                  refine hK.out _ _ ⟨(blk_cell BK207.out 0).trans rfl, (blk_cell BK207.out 1).trans rfl, (blk_cell BK207.out 2).trans rfl, (blk_cell BK207.out 3).trans rfl⟩ (fun hHeld => ?_)
                  clear hK K
                  refine norm_ (a' := ?_) ?_ ?_
                  rotate_left
                  ·
                   show Act.put _ (some 104) _ = _
                   simp only [Act.put, setIfInBounds_toArray, set_cons_zero, set_cons_succ, i64_w, i32_w]
                   rfl
                  refine pure_ (i := 22) (N := some 105) (v := ?_) (a' := ?_) (bl_15 25 8388607) rfl rfl (any_of HT_.out (by kernel_rfl)) (fun _ _ _ h => h) (Or.inl ⟨by rfl, ?_⟩) ?_ ?_; rotate_left; (· intro w'; go_simp; with_reducible rfl); rotate_left; (· simp only [Act.put, setIfInBounds_toArray, set_cons_zero, set_cons_succ, i64_w, i32_w]; rfl)
                  refine pure_ (i := 23) (N := some 106) (v := ?_) (a' := ?_) (bl_15 25 16777215) rfl rfl (any_of HT_.out (by kernel_rfl)) (fun _ _ _ h => h) (Or.inl ⟨by rfl, ?_⟩) ?_ ?_; rotate_left; (· intro w'; go_simp; with_reducible rfl); rotate_left; (· simp only [Act.put, setIfInBounds_toArray, set_cons_zero, set_cons_succ, i64_w, i32_w]; rfl)
                  refine pure_ (i := 24) (N := some 107) (v := ?_) (a' := ?_) (bl_15 25 33554431) rfl rfl (any_of HT_.out (by kernel_rfl)) (fun _ _ _ h => h) (Or.inl ⟨by rfl, ?_⟩) ?_ ?_; rotate_left; (· intro w'; go_simp; with_reducible rfl); rotate_left; (· simp only [Act.put, setIfInBounds_toArray, set_cons_zero, set_cons_succ, i64_w, i32_w]; rfl)
                  refine done_ (done_of HT_.out (by kernel_rfl)) ?_
                  have hcz115_0 : w114.cell? ⟨gb190, 0, none⟩ = some (.int .u64 a2_0) := (blk_cell BK190.out 0).trans rfl
                  have hcz115_1 : w114.cell? ⟨gb190, 1, none⟩ = some (.slice A2_1 l2_1.length c2_1) := (blk_cell BK190.out 1).trans rfl
                  have hfz115_0 := blk_frozen BK190.out 0
                  have hfz115_1 := blk_frozen BK190.out 1
                  try go_wp2_with (first | ((with_reducible refine gate_callee (f := 35) rfl ?_); refine goesL_ (some 113) rfl rfl Try.func35 (by kernel_rfl) rfl #[.int .u64 t192, .int .i64 (l0.length : Int), .int .i64 ji16, .agg #[.int .u64 a2_0, .slice A2_1 l2_1.length c2_1]] rfl (by (try simp only [map_toArray, map_cons, map_nil]); first | done | (simp only [hji16]; rfl) | rfl) ?_; (with_reducible refine (parolelaw04_check.calls t192 (l0.length : Int) ji16 a2_0 _ _ l2_1 t213 _ ?side1 ?side2 A99.out).mono ?_); (case side1 => repeat (first | exact (Kd.C_below HR2_1.out (by repeat (first | (with_reducible first | exact HB.out | apply below_alloc | apply pw_below_drewN | apply below_drew1 | refine below_set ?_ GE190.out | refine below_set ?_ GE197.out | refine below_set ?_ GE199.out | refine below_set ?_ GE207.out) | exact HB.out))) | (with_reducible refine Kd.C_alloc ?_ _) | (with_reducible refine Kd.C_drewN ?_ _) | (with_reducible refine Kd.C_drew ?_))); (case side2 => exact HC2_1.out); rintro e w116 ⟨rfl, hb⟩; refine ⟨_, rfl, ?_⟩; have n0_ := Aside0.mk (Kd.R_below (by (with_reducible repeat (first | apply Kd.R_alloc | apply Kd.R_drewN | apply Kd.R_drew)); exact HO_198000.out) hb); have n1_ := Aside0.mk (Kd.R_below (by (with_reducible repeat (first | apply Kd.R_alloc | apply Kd.R_drewN | apply Kd.R_drew)); exact HO_200001.out) hb); have n2_ := Aside0.mk (blk_below (g := gb190) (o := .cells #[.int .u64 a2_0, .slice A2_1 l2_1.length c2_1] 50 (0, 0)) (by (with_reducible repeat (first | refine blk_drewN ?_ _ | refine blk_drew ?_ | refine blk_alloc ?_ _)); exact BK190.out) hb); have n3_ := Aside0.mk (blk_below (g := gb197) (o := .cells #[.slice Ao22 t193.length co22, .int .i64 t196] 46 (0, 0)) (by (with_reducible repeat (first | refine blk_drewN ?_ _ | refine blk_drew ?_ | refine blk_alloc ?_ _)); exact BK197.out) hb); have n4_ := Aside0.mk (blk_below (g := gb199) (o := .cells #[.int .u64 (rd l0 (ji16)), .slice Ao22 t193.length co22] 50 (0, 0)) (by (with_reducible repeat (first | refine blk_drewN ?_ _ | refine blk_drew ?_ | refine blk_alloc ?_ _)); exact BK199.out) hb); have n5_ := Aside0.mk (blk_below (g := gb207) (o := .cells #[.int .u64 t202, .int .u64 t203, .int .u64 t204, .int .u64 t205] 60 (0, 0)) (by (with_reducible repeat (first | refine blk_drewN ?_ _ | refine blk_drew ?_ | refine blk_alloc ?_ _)); exact BK207.out) hb); have n6_ := Aside0.mk (below_step (by repeat (first | (with_reducible first | exact HB.out | apply below_alloc | apply pw_below_drewN | apply below_drew1 | refine below_set ?_ GE190.out | refine below_set ?_ GE197.out | refine below_set ?_ GE199.out | refine below_set ?_ GE207.out) | exact HB.out)) hb); clear HO_198000; clear HO_200001; clear BK190; clear BK197; clear BK199; clear BK207; clear HB; have HO_198000 := n0_; have HO_200001 := n1_; have BK190 := n2_; have BK197 := n3_; have BK199 := n4_; have BK207 := n5_; have HB := n6_; clear n0_ n1_ n2_ n3_ n4_ n5_ n6_; (try clear hb); (try clear hb2); (try clear hk); (try clear hi)))
                  go_ret
                  exact ⟨by first | rfl | (simp [errW_none, errW_some] <;> rfl) | (simp only [← hji16]; first | rfl | (simp [errW_none, errW_some] <;> rfl)) | (simp [*, errW_none, errW_some] <;> rfl), by repeat (first | (with_reducible first | exact HB.out | apply below_alloc | apply pw_below_drewN | apply below_drew1 | refine below_set ?_ GE190.out | refine below_set ?_ GE197.out | refine below_set ?_ GE199.out | refine below_set ?_ GE207.out) | exact HB.out)⟩
                ·
                 rw [if_neg c100] at H
                 have c100b0 : (t213 == 0) = false := beq_eq_false_iff_ne.mpr c100
                 have c100b1 : (t213 != 0) = true := bne_iff_ne.mpr c100
                 by_cases c117 : x12_41 = true
                 ·
                  subst c117
                  have H1 : (none) = some r := by rw [if_pos rfl] at H; exact H
                  clear H
                  have H := H1
                  clear H1
                  exact absurd H (by simp)
                 ·
                  replace c117 := Bool.eq_false_iff.mpr c117
                  subst c117
                  have H1 : (some true) = some r := by rw [if_neg (show ¬ (false = true) by decide)] at H; exact H
                  clear H
                  have H := H1
                  clear H1
                  obtain rfl := Option.some.inj H
                  have hnb118 := NB199_190.out
                  have hnc118 := NB190_199.out
                  have hnb119 := NB199_197.out
                  have hnc119 := NB197_199.out
                  have hcz120_0 : wc.cell? ⟨gb199, 0, none⟩ = some (.int .u64 (rd l0 (ji16))) := (blk_cell BK199.out 0).trans rfl
                  have hcz120_1 : wc.cell? ⟨gb199, 1, none⟩ = some (.slice Ao22 t193.length co22) := (blk_cell BK199.out 1).trans rfl
                  have hfz120_0 := blk_frozen BK199.out 0
                  have hfz120_1 := blk_frozen BK199.out 1
                  have hnb121 := NB190_197.out
                  have hnc121 := NB197_190.out
                  have hcz122_0 : wc.cell? ⟨gb190, 0, none⟩ = some (.int .u64 a2_0) := (blk_cell BK190.out 0).trans rfl
                  have hcz122_1 : wc.cell? ⟨gb190, 1, none⟩ = some (.slice A2_1 l2_1.length c2_1) := (blk_cell BK190.out 1).trans rfl
                  have hfz122_0 := blk_frozen BK190.out 0
                  have hfz122_1 := blk_frozen BK190.out 1
                  try go_wp2_with (first | ((with_reducible refine gate_callee (f := 40) rfl ?_); refine goesL_ (some 80) rfl rfl Try.func40 (by kernel_rfl) rfl #[.int .i64 (l0.length : Int), .int .i64 ji16, .agg #[.int .u64 (rd l0 (ji16)), .slice Ao22 t193.length co22], .agg #[.int .u64 a2_0, .slice A2_1 l2_1.length c2_1]] rfl (by (try simp only [map_toArray, map_cons, map_nil]); first | done | (simp only [hji16]; rfl) | rfl) ?_; (with_reducible refine (merkle_Collide.calls kj41 (l0.length : Int) ji16 (rd l0 (ji16)) _ _ t193 a2_0 _ _ l2_1 t202 t203 t204 t205 true _ ?side1 ?side2 ?side3 ?side4 A55.out).mono ?_); (case side1 => repeat (first | exact (Kd.R_reads' HO_200001.out).2.2 | (with_reducible refine Kd.C_alloc ?_ _) | (with_reducible refine Kd.C_drewN ?_ _) | (with_reducible refine Kd.C_drew ?_))); (case side2 => exact (Kd.R_reads' HO_200001.out).2.1); (case side3 => repeat (first | exact (Kd.C_below HR2_1.out HB.out) | (with_reducible refine Kd.C_alloc ?_ _) | (with_reducible refine Kd.C_drewN ?_ _) | (with_reducible refine Kd.C_drew ?_))); (case side4 => exact HC2_1.out); rintro e w123 ⟨rfl, hb⟩; refine ⟨_, rfl, ?_⟩; have n0_ := Aside0.mk (Kd.R_below (by (with_reducible repeat (first | apply Kd.R_alloc | apply Kd.R_drewN | apply Kd.R_drew)); exact HO_198000.out) hb); have n1_ := Aside0.mk (Kd.R_below (by (with_reducible repeat (first | apply Kd.R_alloc | apply Kd.R_drewN | apply Kd.R_drew)); exact HO_200001.out) hb); have n2_ := Aside0.mk (blk_below (g := gb190) (o := .cells #[.int .u64 a2_0, .slice A2_1 l2_1.length c2_1] 50 (0, 0)) (by (with_reducible repeat (first | refine blk_drewN ?_ _ | refine blk_drew ?_ | refine blk_alloc ?_ _)); exact BK190.out) hb); have n3_ := Aside0.mk (blk_below (g := gb197) (o := .cells #[.slice Ao22 t193.length co22, .int .i64 t196] 46 (0, 0)) (by (with_reducible repeat (first | refine blk_drewN ?_ _ | refine blk_drew ?_ | refine blk_alloc ?_ _)); exact BK197.out) hb); have n4_ := Aside0.mk (blk_below (g := gb199) (o := .cells #[.int .u64 (rd l0 (ji16)), .slice Ao22 t193.length co22] 50 (0, 0)) (by (with_reducible repeat (first | refine blk_drewN ?_ _ | refine blk_drew ?_ | refine blk_alloc ?_ _)); exact BK199.out) hb); have n5_ := Aside0.mk (below_step (by repeat (first | (with_reducible first | exact HB.out | apply below_alloc | apply pw_below_drewN | apply below_drew1 | refine below_set ?_ GE190.out | refine below_set ?_ GE197.out | refine below_set ?_ GE199.out) | exact HB.out)) hb); clear HO_198000; clear HO_200001; clear BK190; clear BK197; clear BK199; clear HB; have HO_198000 := n0_; have HO_200001 := n1_; have BK190 := n2_; have BK197 := n3_; have BK199 := n4_; have HB := n5_; clear n0_ n1_ n2_ n3_ n4_ n5_; (try clear hb); (try clear hb2); (try clear hk); (try clear hi)) | ((with_reducible refine gate_dst (N := 13) rfl ?_); (try (refine gate_guard (by rfl) ?_; dsimp only)); refine box_event ?hg (N := 13) ?hd (cs := #[.int .u64 0, .int .u64 0, .int .u64 0, .int .u64 0]) (t := 60) ?hr ?_; (case hd => rfl); (case hg => rfl); (case hr => first | (go_simp; done) | (go_simp; rfl)); intro gb207 hg w124 hbox hb; have n0_ := Aside0.mk (Kd.R_below (by (with_reducible repeat (first | apply Kd.R_alloc | apply Kd.R_drewN | apply Kd.R_drew)); exact HO_198000.out) hb); have n1_ := Aside0.mk (Kd.R_below (by (with_reducible repeat (first | apply Kd.R_alloc | apply Kd.R_drewN | apply Kd.R_drew)); exact HO_200001.out) hb); have n2_ := Aside0.mk (blk_below (g := gb190) (o := .cells #[.int .u64 a2_0, .slice A2_1 l2_1.length c2_1] 50 (0, 0)) (by (with_reducible repeat (first | refine blk_drewN ?_ _ | refine blk_drew ?_ | refine blk_alloc ?_ _)); exact BK190.out) hb); have n3_ := Aside0.mk (blk_below (g := gb197) (o := .cells #[.slice Ao22 t193.length co22, .int .i64 t196] 46 (0, 0)) (by (with_reducible repeat (first | refine blk_drewN ?_ _ | refine blk_drew ?_ | refine blk_alloc ?_ _)); exact BK197.out) hb); have n4_ := Aside0.mk (blk_below (g := gb199) (o := .cells #[.int .u64 (rd l0 (ji16)), .slice Ao22 t193.length co22] 50 (0, 0)) (by (with_reducible repeat (first | refine blk_drewN ?_ _ | refine blk_drew ?_ | refine blk_alloc ?_ _)); exact BK199.out) hb); have n5_ := Aside0.mk (below_step (by repeat (first | (with_reducible first | exact HB.out | apply below_alloc | apply pw_below_drewN | apply below_drew1 | refine below_set ?_ GE190.out | refine below_set ?_ GE197.out | refine below_set ?_ GE199.out) | exact HB.out)) hb); have n6_ := Aside0.mk (hbox); have n7_ := Aside0.mk ((by rw [hg]; exact (below_size (by repeat (first | (with_reducible first | exact HB.out | apply below_alloc | apply pw_below_drewN | apply below_drew1 | refine below_set ?_ GE190.out | refine below_set ?_ GE197.out | refine below_set ?_ GE199.out) | exact HB.out))) : w.heap.size ≤ gb207)); have n8_ := Aside0.mk ((by rw [hg]; exact (below_size (by repeat (first | (with_reducible first | exact HB.out | apply below_alloc | apply pw_below_drewN | apply below_drew1 | refine below_set ?_ GE190.out | refine below_set ?_ GE197.out | refine below_set ?_ GE199.out) | exact HB.out))) : w.heap.size ≤ gb207)); have n9_ := Aside0.mk ((by rw [hg]; exact Nat.ne_of_lt (blk_lt (g := gb190) (o := .cells #[.int .u64 a2_0, .slice A2_1 l2_1.length c2_1] 50 (0, 0)) (by (with_reducible repeat (first | refine blk_drewN ?_ _ | refine blk_drew ?_ | refine blk_alloc ?_ _)); exact BK190.out)) : gb190 ≠ gb207)); have n10_ := Aside0.mk ((by rw [hg]; exact Nat.ne_of_gt (blk_lt (g := gb190) (o := .cells #[.int .u64 a2_0, .slice A2_1 l2_1.length c2_1] 50 (0, 0)) (by (with_reducible repeat (first | refine blk_drewN ?_ _ | refine blk_drew ?_ | refine blk_alloc ?_ _)); exact BK190.out)) : gb207 ≠ gb190)); have n11_ := Aside0.mk ((by rw [hg]; exact Nat.ne_of_lt (blk_lt (g := gb197) (o := .cells #[.slice Ao22 t193.length co22, .int .i64 t196] 46 (0, 0)) (by (with_reducible repeat (first | refine blk_drewN ?_ _ | refine blk_drew ?_ | refine blk_alloc ?_ _)); exact BK197.out)) : gb197 ≠ gb207)); have n12_ := Aside0.mk ((by rw [hg]; exact Nat.ne_of_gt (blk_lt (g := gb197) (o := .cells #[.slice Ao22 t193.length co22, .int .i64 t196] 46 (0, 0)) (by (with_reducible repeat (first | refine blk_drewN ?_ _ | refine blk_drew ?_ | refine blk_alloc ?_ _)); exact BK197.out)) : gb207 ≠ gb197)); have n13_ := Aside0.mk ((by rw [hg]; exact Nat.ne_of_lt (blk_lt (g := gb199) (o := .cells #[.int .u64 (rd l0 (ji16)), .slice Ao22 t193.length co22] 50 (0, 0)) (by (with_reducible repeat (first | refine blk_drewN ?_ _ | refine blk_drew ?_ | refine blk_alloc ?_ _)); exact BK199.out)) : gb199 ≠ gb207)); have n14_ := Aside0.mk ((by rw [hg]; exact Nat.ne_of_gt (blk_lt (g := gb199) (o := .cells #[.int .u64 (rd l0 (ji16)), .slice Ao22 t193.length co22] 50 (0, 0)) (by (with_reducible repeat (first | refine blk_drewN ?_ _ | refine blk_drew ?_ | refine blk_alloc ?_ _)); exact BK199.out)) : gb207 ≠ gb199)); clear HO_198000; clear HO_200001; clear BK190; clear BK197; clear BK199; clear HB; have HO_198000 := n0_; have HO_200001 := n1_; have BK190 := n2_; have BK197 := n3_; have BK199 := n4_; have HB := n5_; have BK207 := n6_; have GW207 := n7_; have GE207 := n8_; have NB190_207 := n9_; have NB207_190 := n10_; have NB197_207 := n11_; have NB207_197 := n12_; have NB199_207 := n13_; have NB207_199 := n14_; clear n0_ n1_ n2_ n3_ n4_ n5_ n6_ n7_ n8_ n9_ n10_ n11_ n12_ n13_ n14_; clear hb hbox hg; have hnb125 := NB207_190.out; have hnc125 := NB190_207.out; have hnb126 := NB207_197.out; have hnc126 := NB197_207.out; have hnb127 := NB207_199.out; have hnc127 := NB199_207.out; have hcz128_0 : w124.cell? ⟨gb207, 0, none⟩ = some (.int .u64 0) := (blk_cell BK207.out 0).trans rfl; have hcz128_1 : w124.cell? ⟨gb207, 1, none⟩ = some (.int .u64 0) := (blk_cell BK207.out 1).trans rfl; have hcz128_2 : w124.cell? ⟨gb207, 2, none⟩ = some (.int .u64 0) := (blk_cell BK207.out 2).trans rfl; have hcz128_3 : w124.cell? ⟨gb207, 3, none⟩ = some (.int .u64 0) := (blk_cell BK207.out 3).trans rfl; have hfz128_0 := blk_frozen BK207.out 0; have hfz128_1 := blk_frozen BK207.out 1; have hfz128_2 := blk_frozen BK207.out 2; have hfz128_3 := blk_frozen BK207.out 3))
                  have n0_ : Aside0 (Kd.R (Kd.int .u64) 22 ((((w124.setCell ⟨gb207, 0, none⟩ (.int .u64 t202)).setCell ⟨gb207, 1, none⟩ (.int .u64 t203)).setCell ⟨gb207, 2, none⟩ (.int .u64 t204)).setCell ⟨gb207, 3, none⟩ (.int .u64 t205)) w.heap.size (fun _ => True) (.slice Ao22 t193.length co22) t193) := ⟨by (with_reducible repeat (first | apply Kd.R_alloc | apply Kd.R_drewN | apply Kd.R_drew)); exact Kd.R_mono (Kd.R_far (p := ⟨gb207, 3, none⟩) (Kd.R_far (p := ⟨gb207, 2, none⟩) (Kd.R_far (p := ⟨gb207, 1, none⟩) (Kd.R_far (p := ⟨gb207, 0, none⟩) (Kd.R_types HO_198000.out BK207.out (by decide)) (fun _ hk => by first | exact hk.2 | exact hk | exact ⟨hk.2, hk.1⟩ | simp_all) (.int .u64 t202)) (fun _ hk => by first | exact hk.2 | exact hk | exact ⟨hk.2, hk.1⟩ | simp_all) (.int .u64 t203)) (fun _ hk => by first | exact hk.2 | exact hk | exact ⟨hk.2, hk.1⟩ | simp_all) (.int .u64 t204)) (fun _ hk => by first | exact hk.2 | exact hk | exact ⟨hk.2, hk.1⟩ | simp_all) (.int .u64 t205)) (fun _ hk => trivial)⟩
                  have n1_ : Aside0 (Kd.R (Kd.int .u64) 22 ((((w124.setCell ⟨gb207, 0, none⟩ (.int .u64 t202)).setCell ⟨gb207, 1, none⟩ (.int .u64 t203)).setCell ⟨gb207, 2, none⟩ (.int .u64 t204)).setCell ⟨gb207, 3, none⟩ (.int .u64 t205)) w.heap.size (fun _ => True) (.slice Ao22 t193.length co22) t193) := ⟨by (with_reducible repeat (first | apply Kd.R_alloc | apply Kd.R_drewN | apply Kd.R_drew)); exact Kd.R_mono (Kd.R_far (p := ⟨gb207, 3, none⟩) (Kd.R_far (p := ⟨gb207, 2, none⟩) (Kd.R_far (p := ⟨gb207, 1, none⟩) (Kd.R_far (p := ⟨gb207, 0, none⟩) (Kd.R_types HO_200001.out BK207.out (by decide)) (fun _ hk => by first | exact hk.2 | exact hk | exact ⟨hk.2, hk.1⟩ | simp_all) (.int .u64 t202)) (fun _ hk => by first | exact hk.2 | exact hk | exact ⟨hk.2, hk.1⟩ | simp_all) (.int .u64 t203)) (fun _ hk => by first | exact hk.2 | exact hk | exact ⟨hk.2, hk.1⟩ | simp_all) (.int .u64 t204)) (fun _ hk => by first | exact hk.2 | exact hk | exact ⟨hk.2, hk.1⟩ | simp_all) (.int .u64 t205)) (fun _ hk => trivial)⟩
                  have n2_ : Aside0 (((((w124.setCell ⟨gb207, 0, none⟩ (.int .u64 t202)).setCell ⟨gb207, 1, none⟩ (.int .u64 t203)).setCell ⟨gb207, 2, none⟩ (.int .u64 t204)).setCell ⟨gb207, 3, none⟩ (.int .u64 t205)).heap[gb190]? = some (.cells #[.int .u64 a2_0, .slice A2_1 l2_1.length c2_1] 50 (0, 0))) := ⟨by (with_reducible repeat (first | refine blk_drewN ?_ _ | refine blk_drew ?_ | refine blk_alloc ?_ _)); refine blk_far ?_ NB190_207.out _; (with_reducible repeat (first | refine blk_drewN ?_ _ | refine blk_drew ?_ | refine blk_alloc ?_ _)); refine blk_far ?_ NB190_207.out _; (with_reducible repeat (first | refine blk_drewN ?_ _ | refine blk_drew ?_ | refine blk_alloc ?_ _)); refine blk_far ?_ NB190_207.out _; (with_reducible repeat (first | refine blk_drewN ?_ _ | refine blk_drew ?_ | refine blk_alloc ?_ _)); refine blk_far ?_ NB190_207.out _; (with_reducible repeat (first | refine blk_drewN ?_ _ | refine blk_drew ?_ | refine blk_alloc ?_ _)); exact BK190.out⟩
                  have n3_ : Aside0 (((((w124.setCell ⟨gb207, 0, none⟩ (.int .u64 t202)).setCell ⟨gb207, 1, none⟩ (.int .u64 t203)).setCell ⟨gb207, 2, none⟩ (.int .u64 t204)).setCell ⟨gb207, 3, none⟩ (.int .u64 t205)).heap[gb197]? = some (.cells #[.slice Ao22 t193.length co22, .int .i64 t196] 46 (0, 0))) := ⟨by (with_reducible repeat (first | refine blk_drewN ?_ _ | refine blk_drew ?_ | refine blk_alloc ?_ _)); refine blk_far ?_ NB197_207.out _; (with_reducible repeat (first | refine blk_drewN ?_ _ | refine blk_drew ?_ | refine blk_alloc ?_ _)); refine blk_far ?_ NB197_207.out _; (with_reducible repeat (first | refine blk_drewN ?_ _ | refine blk_drew ?_ | refine blk_alloc ?_ _)); refine blk_far ?_ NB197_207.out _; (with_reducible repeat (first | refine blk_drewN ?_ _ | refine blk_drew ?_ | refine blk_alloc ?_ _)); refine blk_far ?_ NB197_207.out _; (with_reducible repeat (first | refine blk_drewN ?_ _ | refine blk_drew ?_ | refine blk_alloc ?_ _)); exact BK197.out⟩
                  have n4_ : Aside0 (((((w124.setCell ⟨gb207, 0, none⟩ (.int .u64 t202)).setCell ⟨gb207, 1, none⟩ (.int .u64 t203)).setCell ⟨gb207, 2, none⟩ (.int .u64 t204)).setCell ⟨gb207, 3, none⟩ (.int .u64 t205)).heap[gb199]? = some (.cells #[.int .u64 (rd l0 (ji16)), .slice Ao22 t193.length co22] 50 (0, 0))) := ⟨by (with_reducible repeat (first | refine blk_drewN ?_ _ | refine blk_drew ?_ | refine blk_alloc ?_ _)); refine blk_far ?_ NB199_207.out _; (with_reducible repeat (first | refine blk_drewN ?_ _ | refine blk_drew ?_ | refine blk_alloc ?_ _)); refine blk_far ?_ NB199_207.out _; (with_reducible repeat (first | refine blk_drewN ?_ _ | refine blk_drew ?_ | refine blk_alloc ?_ _)); refine blk_far ?_ NB199_207.out _; (with_reducible repeat (first | refine blk_drewN ?_ _ | refine blk_drew ?_ | refine blk_alloc ?_ _)); refine blk_far ?_ NB199_207.out _; (with_reducible repeat (first | refine blk_drewN ?_ _ | refine blk_drew ?_ | refine blk_alloc ?_ _)); exact BK199.out⟩
                  have n5_ : Aside0 (((((w124.setCell ⟨gb207, 0, none⟩ (.int .u64 t202)).setCell ⟨gb207, 1, none⟩ (.int .u64 t203)).setCell ⟨gb207, 2, none⟩ (.int .u64 t204)).setCell ⟨gb207, 3, none⟩ (.int .u64 t205)).heap[gb207]? = some (.cells #[.int .u64 t202, .int .u64 t203, .int .u64 t204, .int .u64 t205] 60 (0, 0))) := ⟨by (with_reducible repeat (first | refine blk_drewN ?_ _ | refine blk_drew ?_ | refine blk_alloc ?_ _)); refine blk_put (cs := #[.int .u64 t202, .int .u64 t203, .int .u64 t204, .int .u64 0]) ?_ 3 _ rfl; (with_reducible repeat (first | refine blk_drewN ?_ _ | refine blk_drew ?_ | refine blk_alloc ?_ _)); refine blk_put (cs := #[.int .u64 t202, .int .u64 t203, .int .u64 0, .int .u64 0]) ?_ 2 _ rfl; (with_reducible repeat (first | refine blk_drewN ?_ _ | refine blk_drew ?_ | refine blk_alloc ?_ _)); refine blk_put (cs := #[.int .u64 t202, .int .u64 0, .int .u64 0, .int .u64 0]) ?_ 1 _ rfl; (with_reducible repeat (first | refine blk_drewN ?_ _ | refine blk_drew ?_ | refine blk_alloc ?_ _)); refine blk_put (cs := #[.int .u64 0, .int .u64 0, .int .u64 0, .int .u64 0]) ?_ 0 _ rfl; (with_reducible repeat (first | refine blk_drewN ?_ _ | refine blk_drew ?_ | refine blk_alloc ?_ _)); exact BK207.out⟩
                  have n6_ : Aside0 (Below w.heap.size w ((((w124.setCell ⟨gb207, 0, none⟩ (.int .u64 t202)).setCell ⟨gb207, 1, none⟩ (.int .u64 t203)).setCell ⟨gb207, 2, none⟩ (.int .u64 t204)).setCell ⟨gb207, 3, none⟩ (.int .u64 t205))) := ⟨by repeat (first | (with_reducible first | exact HB.out | apply below_alloc | apply pw_below_drewN | apply below_drew1 | refine below_set ?_ GE190.out | refine below_set ?_ GE197.out | refine below_set ?_ GE199.out | refine below_set ?_ GE207.out) | exact HB.out)⟩
                  (try clear HO_198000)
                  (try clear HO_200001)
                  (try clear BK190)
                  (try clear BK197)
                  (try clear BK199)
                  (try clear BK207)
                  (try clear HB)
                  generalize ((((w124.setCell ⟨gb207, 0, none⟩ (.int .u64 t202)).setCell ⟨gb207, 1, none⟩ (.int .u64 t203)).setCell ⟨gb207, 2, none⟩ (.int .u64 t204)).setCell ⟨gb207, 3, none⟩ (.int .u64 t205)) = w129 at n0_ n1_ n2_ n3_ n4_ n5_ n6_ ⊢
                  have HO_198000 := n0_
                  have HO_200001 := n1_
                  have BK190 := n2_
                  have BK197 := n3_
                  have BK199 := n4_
                  have BK207 := n5_
                  have HB := n6_
                  clear n0_ n1_ n2_ n3_ n4_ n5_ n6_
                  have n0_ := Aside0.mk (Kd.R_drew HO_198000.out)
                  have n1_ := Aside0.mk (Kd.R_drew HO_200001.out)
                  have n2_ := Aside0.mk (blk_drew BK190.out)
                  have n3_ := Aside0.mk (blk_drew BK197.out)
                  have n4_ := Aside0.mk (blk_drew BK199.out)
                  have n5_ := Aside0.mk (blk_drew BK207.out)
                  have n6_ := Aside0.mk (below_drew1 HB.out)
                  clear HO_198000
                  clear HO_200001
                  clear BK190
                  clear BK197
                  clear BK199
                  clear BK207
                  clear HB
                  have HO_198000 := n0_
                  have HO_200001 := n1_
                  have BK190 := n2_
                  have BK197 := n3_
                  have BK199 := n4_
                  have BK207 := n5_
                  have HB := n6_
                  clear n0_ n1_ n2_ n3_ n4_ n5_ n6_
                  refine start_ (n := 25) (S := fun w' => w'.cell? ⟨gb207, 0, none⟩ = some (.int .u64 t202) ∧ w'.cell? ⟨gb207, 1, none⟩ = some (.int .u64 t203) ∧ w'.cell? ⟨gb207, 2, none⟩ = some (.int .u64 t204) ∧ w'.cell? ⟨gb207, 3, none⟩ = some (.int .u64 t205)) (ds := []) #[false, false, false, false, false, false, false, false, false, false, false, false, false, false, false, false, false, false, false, false, false, false, false, false, false] (by kernel_rfl) rfl rfl ⟨(blk_cell BK207.out 0).trans rfl, (blk_cell BK207.out 1).trans rfl, (blk_cell BK207.out 2).trans rfl, (blk_cell BK207.out 3).trans rfl⟩ (fun hHeld => ?_); refine with_tabW parolelaw04_MerkleBinds.tab14 parolelaw04_MerkleBinds.bits14 (fun HT_ HW_ => ?_)
                  generalize w129.drew = w130 at HO_198000 HO_200001 BK190 BK197 BK199 BK207 HB hHeld ⊢
                  refine pure_ (i := 0) (N := some 83) (v := ?_) (a' := ?_) (bl_15 25 1) rfl rfl (any_of HT_.out (by kernel_rfl)) (fun _ _ _ h => h) (Or.inl ⟨by rfl, ?_⟩) ?_ ?_; rotate_left; (· intro w'; go_simp; with_reducible rfl); rotate_left; (· simp only [Act.put, setIfInBounds_toArray, set_cons_zero, set_cons_succ, i64_w, i32_w]; rfl)
                  refine pure_ (i := 1) (N := some 84) (v := ?_) (a' := ?_) (bl_15 25 3) rfl rfl (any_of HT_.out (by kernel_rfl)) (fun _ _ _ h => h) (Or.inl ⟨by rfl, ?_⟩) ?_ ?_; rotate_left; (· intro w'; go_simp; with_reducible rfl); rotate_left; (· simp only [Act.put, setIfInBounds_toArray, set_cons_zero, set_cons_succ, i64_w, i32_w]; rfl)
                  refine pure_ (i := 2) (N := some 85) (v := ?_) (a' := ?_) (bl_15 25 7) rfl rfl (any_of HT_.out (by kernel_rfl)) (fun _ _ _ h => h) (Or.inl ⟨by rfl, ?_⟩) ?_ ?_; rotate_left; (· intro w'; go_simp; with_reducible rfl); rotate_left; (· simp only [Act.put, setIfInBounds_toArray, set_cons_zero, set_cons_succ, i64_w, i32_w]; rfl)
                  refine pure_ (i := 4) (N := some 87) (v := ?_) (a' := ?_) (bl_15 25 23) rfl rfl (any_of HT_.out (by kernel_rfl)) (fun _ _ _ h => h) (Or.inl ⟨by rfl, ?_⟩) ?_ ?_; rotate_left; (· intro w'; go_simp; with_reducible rfl); rotate_left; (· simp only [Act.put, setIfInBounds_toArray, set_cons_zero, set_cons_succ, i64_w, i32_w]; rfl)
                  refine take_ (i := 3) (N := some 86) (v := ?_) (a' := ?_) (bl_15 25 31) rfl rfl (take_ofW HT_.out HW_.out (by kernel_rfl)) (fun _ _ _ h => h) (Or.inl ⟨by rfl, ?_⟩) hHeld ?_ ?_; rotate_left; (· rintro w' ⟨s0, s1, s2, s3⟩; go_simp; with_reducible rfl); rotate_left; (· simp only [Act.put, setIfInBounds_toArray, set_cons_zero, set_cons_succ, i64_w, i32_w]; rfl)
                  refine take_ (i := 5) (N := some 88) (v := ?_) (a' := ?_) (bl_15 25 63) rfl rfl (take_ofW HT_.out HW_.out (by kernel_rfl)) (fun _ _ _ h => h) (Or.inl ⟨by rfl, ?_⟩) hHeld ?_ ?_; rotate_left; (· rintro w' ⟨s0, s1, s2, s3⟩; go_simp; with_reducible rfl); rotate_left; (· simp only [Act.put, setIfInBounds_toArray, set_cons_zero, set_cons_succ, i64_w, i32_w]; rfl)
                  refine pure_ (i := 6) (N := some 89) (v := ?_) (a' := ?_) (bl_15 25 127) rfl rfl (any_of HT_.out (by kernel_rfl)) (fun _ _ _ h => h) (Or.inl ⟨by rfl, ?_⟩) ?_ ?_; rotate_left; (· intro w'; go_simp; with_reducible rfl); rotate_left; (· simp only [Act.put, setIfInBounds_toArray, set_cons_zero, set_cons_succ, i64_w, i32_w]; rfl)
                  refine pure_ (i := 7) (N := some 90) (v := ?_) (a' := ?_) (bl_15 25 255) rfl rfl (any_of HT_.out (by kernel_rfl)) (fun _ _ _ h => h) (Or.inl ⟨by rfl, ?_⟩) ?_ ?_; rotate_left; (· intro w'; go_simp; with_reducible rfl); rotate_left; (· simp only [Act.put, setIfInBounds_toArray, set_cons_zero, set_cons_succ, i64_w, i32_w]; rfl)
                  refine pure_ (i := 8) (N := some 91) (v := ?_) (a' := ?_) (bl_15 25 511) rfl rfl (any_of HT_.out (by kernel_rfl)) (fun _ _ _ h => h) (Or.inl ⟨by rfl, ?_⟩) ?_ ?_; rotate_left; (· intro w'; go_simp; with_reducible rfl); rotate_left; (· simp only [Act.put, setIfInBounds_toArray, set_cons_zero, set_cons_succ, i64_w, i32_w]; rfl)
                  refine pure_ (i := 9) (N := some 92) (v := ?_) (a' := ?_) (bl_15 25 1023) rfl rfl (any_of HT_.out (by kernel_rfl)) (fun _ _ _ h => h) (Or.inl ⟨by rfl, ?_⟩) ?_ ?_; rotate_left; (· intro w'; go_simp; with_reducible rfl); rotate_left; (· simp only [Act.put, setIfInBounds_toArray, set_cons_zero, set_cons_succ, i64_w, i32_w]; rfl)
                  refine pure_ (i := 11) (N := some 94) (v := ?_) (a' := ?_) (bl_15 25 3071) rfl rfl (any_of HT_.out (by kernel_rfl)) (fun _ _ _ h => h) (Or.inl ⟨by rfl, ?_⟩) ?_ ?_; rotate_left; (· intro w'; go_simp; with_reducible rfl); rotate_left; (· simp only [Act.put, setIfInBounds_toArray, set_cons_zero, set_cons_succ, i64_w, i32_w]; rfl)
                  refine pure_ (i := 12) (N := some 95) (v := ?_) (a' := ?_) (bl_15 25 7167) rfl rfl (any_of HT_.out (by kernel_rfl)) (fun _ _ _ h => h) (Or.inl ⟨by rfl, ?_⟩) ?_ ?_; rotate_left; (· intro w'; go_simp; with_reducible rfl); rotate_left; (· simp only [Act.put, setIfInBounds_toArray, set_cons_zero, set_cons_succ, i64_w, i32_w]; rfl)
                  refine pure_ (i := 15) (N := some 98) (v := ?_) (a' := ?_) (bl_15 25 39935) rfl rfl (any_of HT_.out (by kernel_rfl)) (fun _ _ _ h => h) (Or.inl ⟨by rfl, ?_⟩) ?_ ?_; rotate_left; (· intro w'; go_simp; with_reducible rfl); rotate_left; (· simp only [Act.put, setIfInBounds_toArray, set_cons_zero, set_cons_succ, i64_w, i32_w]; rfl)
                  refine pure_ (i := 16) (N := some 99) (v := ?_) (a' := ?_) (bl_15 25 105471) rfl rfl (any_of HT_.out (by kernel_rfl)) (fun _ _ _ h => h) (Or.inl ⟨by rfl, ?_⟩) ?_ ?_; rotate_left; (· intro w'; go_simp; with_reducible rfl); rotate_left; (· simp only [Act.put, setIfInBounds_toArray, set_cons_zero, set_cons_succ, i64_w, i32_w]; rfl)
                  refine pure_ (i := 18) (N := some 101) (v := ?_) (a' := ?_) (bl_15 25 367615) rfl rfl (any_of HT_.out (by kernel_rfl)) (fun _ _ _ h => h) (Or.inl ⟨by rfl, ?_⟩) ?_ ?_; rotate_left; (· intro w'; go_simp; with_reducible rfl); rotate_left; (· simp only [Act.put, setIfInBounds_toArray, set_cons_zero, set_cons_succ, i64_w, i32_w]; rfl)
                  refine pure_ (i := 19) (N := some 102) (v := ?_) (a' := ?_) (bl_15 25 891903) rfl rfl (any_of HT_.out (by kernel_rfl)) (fun _ _ _ h => h) (Or.inl ⟨by rfl, ?_⟩) ?_ ?_; rotate_left; (· intro w'; go_simp; with_reducible rfl); rotate_left; (· simp only [Act.put, setIfInBounds_toArray, set_cons_zero, set_cons_succ, i64_w, i32_w]; rfl)
                  refine take_ (i := 10) (N := some 93) (v := ?_) (a' := ?_) (bl_15 25 892927) rfl rfl (take_ofW HT_.out HW_.out (by kernel_rfl)) (fun _ _ _ h => h) (Or.inl ⟨by rfl, ?_⟩) hHeld ?_ ?_; rotate_left; (· rintro w' ⟨s0, s1, s2, s3⟩; go_simp; with_reducible rfl); rotate_left; (· simp only [Act.put, setIfInBounds_toArray, set_cons_zero, set_cons_succ, i64_w, i32_w]; rfl)
                  refine take_ (i := 13) (N := some 96) (v := ?_) (a' := ?_) (bl_15 25 901119) rfl rfl (take_ofW HT_.out HW_.out (by kernel_rfl)) (fun _ _ _ h => h) (Or.inl ⟨by rfl, ?_⟩) hHeld ?_ ?_; rotate_left; (· rintro w' ⟨s0, s1, s2, s3⟩; go_simp; with_reducible rfl); rotate_left; (· simp only [Act.put, setIfInBounds_toArray, set_cons_zero, set_cons_succ, i64_w, i32_w]; rfl)
                  refine take_ (i := 17) (N := some 100) (v := ?_) (a' := ?_) (bl_15 25 1032191) rfl rfl (take_ofW HT_.out HW_.out (by kernel_rfl)) (fun _ _ _ h => h) (Or.inl ⟨by rfl, ?_⟩) hHeld ?_ ?_; rotate_left; (· rintro w' ⟨s0, s1, s2, s3⟩; go_simp; with_reducible rfl); rotate_left; (· simp only [Act.put, setIfInBounds_toArray, set_cons_zero, set_cons_succ, i64_w, i32_w]; rfl)
                  refine take_ (i := 20) (N := some 103) (v := ?_) (a' := ?_) (bl_15 25 2080767) rfl rfl (take_ofW HT_.out HW_.out (by kernel_rfl)) (fun _ _ _ h => h) (Or.inl ⟨by rfl, ?_⟩) hHeld ?_ ?_; rotate_left; (· rintro w' ⟨s0, s1, s2, s3⟩; go_simp; with_reducible rfl); rotate_left; (· simp only [Act.put, setIfInBounds_toArray, set_cons_zero, set_cons_succ, i64_w, i32_w]; rfl)
                  refine one_ (i := 14) (N := some 97) (bl_15 25 2097151) rfl rfl (one_of HT_.out (by kernel_rfl)) (by decide) (fun K hK => ?_)
                  refine goes_ Try.func21 (by kernel_rfl) rfl #[.int .u64 t202, .int .u64 t203] (by rfl) rfl rfl (by (try simp only [map_toArray, map_cons, map_nil]); first | done | rfl) ?_
                  with_reducible refine (digest_Join.calls t202 t203 t211 _ A96.out).mono ?_
                  rintro e w' ⟨rfl, ⟨nd, rfl⟩⟩
                  refine ⟨_, rfl, ?_⟩
                  refine hK.out _ _ ⟨(blk_cell BK207.out 0).trans rfl, (blk_cell BK207.out 1).trans rfl, (blk_cell BK207.out 2).trans rfl, (blk_cell BK207.out 3).trans rfl⟩ (fun hHeld => ?_)
                  clear hK K
                  refine norm_ (a' := ?_) ?_ ?_
                  rotate_left
                  ·
                   show Act.put _ (some 97) _ = _
                   simp only [Act.put, setIfInBounds_toArray, set_cons_zero, set_cons_succ, i64_w, i32_w]
                   rfl
                  refine one_ (i := 21) (N := some 104) (bl_15 25 4194303) rfl rfl (one_of HT_.out (by kernel_rfl)) (by decide) (fun K hK => ?_)
                  refine goes_ Try.func21 (by kernel_rfl) rfl #[.int .u64 t204, .int .u64 t205] (by rfl) rfl rfl (by (try simp only [map_toArray, map_cons, map_nil]); first | done | rfl) ?_
                  with_reducible refine (digest_Join.calls t204 t205 t212 _ A97.out).mono ?_
                  rintro e w' ⟨rfl, ⟨nd, rfl⟩⟩
                  refine ⟨_, rfl, ?_⟩
                  refine hK.out _ _ ⟨(blk_cell BK207.out 0).trans rfl, (blk_cell BK207.out 1).trans rfl, (blk_cell BK207.out 2).trans rfl, (blk_cell BK207.out 3).trans rfl⟩ (fun hHeld => ?_)
                  clear hK K
                  refine norm_ (a' := ?_) ?_ ?_
                  rotate_left
                  ·
                   show Act.put _ (some 104) _ = _
                   simp only [Act.put, setIfInBounds_toArray, set_cons_zero, set_cons_succ, i64_w, i32_w]
                   rfl
                  refine pure_ (i := 22) (N := some 105) (v := ?_) (a' := ?_) (bl_15 25 8388607) rfl rfl (any_of HT_.out (by kernel_rfl)) (fun _ _ _ h => h) (Or.inl ⟨by rfl, ?_⟩) ?_ ?_; rotate_left; (· intro w'; go_simp; with_reducible rfl); rotate_left; (· simp only [Act.put, setIfInBounds_toArray, set_cons_zero, set_cons_succ, i64_w, i32_w]; rfl)
                  refine pure_ (i := 23) (N := some 106) (v := ?_) (a' := ?_) (bl_15 25 16777215) rfl rfl (any_of HT_.out (by kernel_rfl)) (fun _ _ _ h => h) (Or.inl ⟨by rfl, ?_⟩) ?_ ?_; rotate_left; (· intro w'; go_simp; with_reducible rfl); rotate_left; (· simp only [Act.put, setIfInBounds_toArray, set_cons_zero, set_cons_succ, i64_w, i32_w]; rfl)
                  refine pure_ (i := 24) (N := some 107) (v := ?_) (a' := ?_) (bl_15 25 33554431) rfl rfl (any_of HT_.out (by kernel_rfl)) (fun _ _ _ h => h) (Or.inl ⟨by rfl, ?_⟩) ?_ ?_; rotate_left; (· intro w'; go_simp; with_reducible rfl); rotate_left; (· simp only [Act.put, setIfInBounds_toArray, set_cons_zero, set_cons_succ, i64_w, i32_w]; rfl)
                  refine done_ (done_of HT_.out (by kernel_rfl)) ?_
                  have hcz131_0 : w130.cell? ⟨gb190, 0, none⟩ = some (.int .u64 a2_0) := (blk_cell BK190.out 0).trans rfl
                  have hcz131_1 : w130.cell? ⟨gb190, 1, none⟩ = some (.slice A2_1 l2_1.length c2_1) := (blk_cell BK190.out 1).trans rfl
                  have hfz131_0 := blk_frozen BK190.out 0
                  have hfz131_1 := blk_frozen BK190.out 1
                  try go_wp2_with (first | ((with_reducible refine gate_callee (f := 35) rfl ?_); refine goesL_ (some 113) rfl rfl Try.func35 (by kernel_rfl) rfl #[.int .u64 t192, .int .i64 (l0.length : Int), .int .i64 ji16, .agg #[.int .u64 a2_0, .slice A2_1 l2_1.length c2_1]] rfl (by (try simp only [map_toArray, map_cons, map_nil]); first | done | (simp only [hji16]; rfl) | rfl) ?_; (with_reducible refine (parolelaw04_check.calls t192 (l0.length : Int) ji16 a2_0 _ _ l2_1 t213 _ ?side1 ?side2 A99.out).mono ?_); (case side1 => repeat (first | exact (Kd.C_below HR2_1.out (by repeat (first | (with_reducible first | exact HB.out | apply below_alloc | apply pw_below_drewN | apply below_drew1 | refine below_set ?_ GE190.out | refine below_set ?_ GE197.out | refine below_set ?_ GE199.out | refine below_set ?_ GE207.out) | exact HB.out))) | (with_reducible refine Kd.C_alloc ?_ _) | (with_reducible refine Kd.C_drewN ?_ _) | (with_reducible refine Kd.C_drew ?_))); (case side2 => exact HC2_1.out); rintro e w132 ⟨rfl, hb⟩; refine ⟨_, rfl, ?_⟩; have n0_ := Aside0.mk (Kd.R_below (by (with_reducible repeat (first | apply Kd.R_alloc | apply Kd.R_drewN | apply Kd.R_drew)); exact HO_198000.out) hb); have n1_ := Aside0.mk (Kd.R_below (by (with_reducible repeat (first | apply Kd.R_alloc | apply Kd.R_drewN | apply Kd.R_drew)); exact HO_200001.out) hb); have n2_ := Aside0.mk (blk_below (g := gb190) (o := .cells #[.int .u64 a2_0, .slice A2_1 l2_1.length c2_1] 50 (0, 0)) (by (with_reducible repeat (first | refine blk_drewN ?_ _ | refine blk_drew ?_ | refine blk_alloc ?_ _)); exact BK190.out) hb); have n3_ := Aside0.mk (blk_below (g := gb197) (o := .cells #[.slice Ao22 t193.length co22, .int .i64 t196] 46 (0, 0)) (by (with_reducible repeat (first | refine blk_drewN ?_ _ | refine blk_drew ?_ | refine blk_alloc ?_ _)); exact BK197.out) hb); have n4_ := Aside0.mk (blk_below (g := gb199) (o := .cells #[.int .u64 (rd l0 (ji16)), .slice Ao22 t193.length co22] 50 (0, 0)) (by (with_reducible repeat (first | refine blk_drewN ?_ _ | refine blk_drew ?_ | refine blk_alloc ?_ _)); exact BK199.out) hb); have n5_ := Aside0.mk (blk_below (g := gb207) (o := .cells #[.int .u64 t202, .int .u64 t203, .int .u64 t204, .int .u64 t205] 60 (0, 0)) (by (with_reducible repeat (first | refine blk_drewN ?_ _ | refine blk_drew ?_ | refine blk_alloc ?_ _)); exact BK207.out) hb); have n6_ := Aside0.mk (below_step (by repeat (first | (with_reducible first | exact HB.out | apply below_alloc | apply pw_below_drewN | apply below_drew1 | refine below_set ?_ GE190.out | refine below_set ?_ GE197.out | refine below_set ?_ GE199.out | refine below_set ?_ GE207.out) | exact HB.out)) hb); clear HO_198000; clear HO_200001; clear BK190; clear BK197; clear BK199; clear BK207; clear HB; have HO_198000 := n0_; have HO_200001 := n1_; have BK190 := n2_; have BK197 := n3_; have BK199 := n4_; have BK207 := n5_; have HB := n6_; clear n0_ n1_ n2_ n3_ n4_ n5_ n6_; (try clear hb); (try clear hb2); (try clear hk); (try clear hi)))
                  go_ret
                  exact ⟨by first | rfl | (simp [errW_none, errW_some] <;> rfl) | (simp only [← hji16]; first | rfl | (simp [errW_none, errW_some] <;> rfl)) | (simp [*, errW_none, errW_some] <;> rfl), by repeat (first | (with_reducible first | exact HB.out | apply below_alloc | apply pw_below_drewN | apply below_drew1 | refine below_set ?_ GE190.out | refine below_set ?_ GE197.out | refine below_set ?_ GE199.out | refine below_set ?_ GE207.out) | exact HB.out)⟩
               ·
                rw [if_neg c98] at H
                exact absurd H (by simp)
             ·
              replace c56 := Bool.eq_false_iff.mpr c56
              subst c56
              have H1 : ((parolelaw04_check.f t192 (l0.length : Int) ji16 a2_0 l2_1).bind fun t214 => (if t214 = 0 then (if x12_41 = true then (some true) else (none)) else (if x12_41 = true then (some true) else (some true)))) = some r := by rw [if_neg (show ¬ (false = true) by decide)] at H; exact H
              clear H
              have H := H1
              clear H1
              replace H := Option.bind_eq_some_iff.mp H
              obtain ⟨t214, A1330, H⟩ := H
              replace H : (if t214 = 0 then (if x12_41 = true then (some true) else (none)) else (if x12_41 = true then (some true) else (some true))) = some r := H
              have A133 := Aside0.mk A1330
              clear A1330
              by_cases c134 : t214 = 0
              ·
               rw [if_pos c134] at H
               have c134b0 : (t214 == 0) = true := beq_iff_eq.mpr c134
               have c134b1 : (t214 != 0) = false := bne_eq_false_iff_eq.mpr c134
               clear c134
               by_cases c135 : x12_41 = true
               ·
                subst c135
                have H1 : (some true) = some r := by rw [if_pos rfl] at H; exact H
                clear H
                have H := H1
                clear H1
                obtain rfl := Option.some.inj H
                have hnb136 := NB199_190.out
                have hnc136 := NB190_199.out
                have hnb137 := NB199_197.out
                have hnc137 := NB197_199.out
                have hcz138_0 : wc.cell? ⟨gb199, 0, none⟩ = some (.int .u64 (rd l0 (ji16))) := (blk_cell BK199.out 0).trans rfl
                have hcz138_1 : wc.cell? ⟨gb199, 1, none⟩ = some (.slice Ao22 t193.length co22) := (blk_cell BK199.out 1).trans rfl
                have hfz138_0 := blk_frozen BK199.out 0
                have hfz138_1 := blk_frozen BK199.out 1
                have hnb139 := NB190_197.out
                have hnc139 := NB197_190.out
                have hcz140_0 : wc.cell? ⟨gb190, 0, none⟩ = some (.int .u64 a2_0) := (blk_cell BK190.out 0).trans rfl
                have hcz140_1 : wc.cell? ⟨gb190, 1, none⟩ = some (.slice A2_1 l2_1.length c2_1) := (blk_cell BK190.out 1).trans rfl
                have hfz140_0 := blk_frozen BK190.out 0
                have hfz140_1 := blk_frozen BK190.out 1
                try go_wp2_with (first | ((with_reducible refine gate_callee (f := 40) rfl ?_); refine goesL_ (some 80) rfl rfl Try.func40 (by kernel_rfl) rfl #[.int .i64 (l0.length : Int), .int .i64 ji16, .agg #[.int .u64 (rd l0 (ji16)), .slice Ao22 t193.length co22], .agg #[.int .u64 a2_0, .slice A2_1 l2_1.length c2_1]] rfl (by (try simp only [map_toArray, map_cons, map_nil]); first | done | (simp only [hji16]; rfl) | rfl) ?_; (with_reducible refine (merkle_Collide.calls kj41 (l0.length : Int) ji16 (rd l0 (ji16)) _ _ t193 a2_0 _ _ l2_1 t202 t203 t204 t205 false _ ?side1 ?side2 ?side3 ?side4 A55.out).mono ?_); (case side1 => repeat (first | exact (Kd.R_reads' HO_200001.out).2.2 | (with_reducible refine Kd.C_alloc ?_ _) | (with_reducible refine Kd.C_drewN ?_ _) | (with_reducible refine Kd.C_drew ?_))); (case side2 => exact (Kd.R_reads' HO_200001.out).2.1); (case side3 => repeat (first | exact (Kd.C_below HR2_1.out HB.out) | (with_reducible refine Kd.C_alloc ?_ _) | (with_reducible refine Kd.C_drewN ?_ _) | (with_reducible refine Kd.C_drew ?_))); (case side4 => exact HC2_1.out); rintro e w141 ⟨rfl, hb⟩; refine ⟨_, rfl, ?_⟩; have n0_ := Aside0.mk (Kd.R_below (by (with_reducible repeat (first | apply Kd.R_alloc | apply Kd.R_drewN | apply Kd.R_drew)); exact HO_198000.out) hb); have n1_ := Aside0.mk (Kd.R_below (by (with_reducible repeat (first | apply Kd.R_alloc | apply Kd.R_drewN | apply Kd.R_drew)); exact HO_200001.out) hb); have n2_ := Aside0.mk (blk_below (g := gb190) (o := .cells #[.int .u64 a2_0, .slice A2_1 l2_1.length c2_1] 50 (0, 0)) (by (with_reducible repeat (first | refine blk_drewN ?_ _ | refine blk_drew ?_ | refine blk_alloc ?_ _)); exact BK190.out) hb); have n3_ := Aside0.mk (blk_below (g := gb197) (o := .cells #[.slice Ao22 t193.length co22, .int .i64 t196] 46 (0, 0)) (by (with_reducible repeat (first | refine blk_drewN ?_ _ | refine blk_drew ?_ | refine blk_alloc ?_ _)); exact BK197.out) hb); have n4_ := Aside0.mk (blk_below (g := gb199) (o := .cells #[.int .u64 (rd l0 (ji16)), .slice Ao22 t193.length co22] 50 (0, 0)) (by (with_reducible repeat (first | refine blk_drewN ?_ _ | refine blk_drew ?_ | refine blk_alloc ?_ _)); exact BK199.out) hb); have n5_ := Aside0.mk (below_step (by repeat (first | (with_reducible first | exact HB.out | apply below_alloc | apply pw_below_drewN | apply below_drew1 | refine below_set ?_ GE190.out | refine below_set ?_ GE197.out | refine below_set ?_ GE199.out) | exact HB.out)) hb); clear HO_198000; clear HO_200001; clear BK190; clear BK197; clear BK199; clear HB; have HO_198000 := n0_; have HO_200001 := n1_; have BK190 := n2_; have BK197 := n3_; have BK199 := n4_; have HB := n5_; clear n0_ n1_ n2_ n3_ n4_ n5_; (try clear hb); (try clear hb2); (try clear hk); (try clear hi)) | ((with_reducible refine gate_dst (N := 13) rfl ?_); (try (refine gate_guard (by rfl) ?_; dsimp only)); refine box_event ?hg (N := 13) ?hd (cs := #[.int .u64 0, .int .u64 0, .int .u64 0, .int .u64 0]) (t := 60) ?hr ?_; (case hd => rfl); (case hg => rfl); (case hr => first | (go_simp; done) | (go_simp; rfl)); intro gb207 hg w142 hbox hb; have n0_ := Aside0.mk (Kd.R_below (by (with_reducible repeat (first | apply Kd.R_alloc | apply Kd.R_drewN | apply Kd.R_drew)); exact HO_198000.out) hb); have n1_ := Aside0.mk (Kd.R_below (by (with_reducible repeat (first | apply Kd.R_alloc | apply Kd.R_drewN | apply Kd.R_drew)); exact HO_200001.out) hb); have n2_ := Aside0.mk (blk_below (g := gb190) (o := .cells #[.int .u64 a2_0, .slice A2_1 l2_1.length c2_1] 50 (0, 0)) (by (with_reducible repeat (first | refine blk_drewN ?_ _ | refine blk_drew ?_ | refine blk_alloc ?_ _)); exact BK190.out) hb); have n3_ := Aside0.mk (blk_below (g := gb197) (o := .cells #[.slice Ao22 t193.length co22, .int .i64 t196] 46 (0, 0)) (by (with_reducible repeat (first | refine blk_drewN ?_ _ | refine blk_drew ?_ | refine blk_alloc ?_ _)); exact BK197.out) hb); have n4_ := Aside0.mk (blk_below (g := gb199) (o := .cells #[.int .u64 (rd l0 (ji16)), .slice Ao22 t193.length co22] 50 (0, 0)) (by (with_reducible repeat (first | refine blk_drewN ?_ _ | refine blk_drew ?_ | refine blk_alloc ?_ _)); exact BK199.out) hb); have n5_ := Aside0.mk (below_step (by repeat (first | (with_reducible first | exact HB.out | apply below_alloc | apply pw_below_drewN | apply below_drew1 | refine below_set ?_ GE190.out | refine below_set ?_ GE197.out | refine below_set ?_ GE199.out) | exact HB.out)) hb); have n6_ := Aside0.mk (hbox); have n7_ := Aside0.mk ((by rw [hg]; exact (below_size (by repeat (first | (with_reducible first | exact HB.out | apply below_alloc | apply pw_below_drewN | apply below_drew1 | refine below_set ?_ GE190.out | refine below_set ?_ GE197.out | refine below_set ?_ GE199.out) | exact HB.out))) : w.heap.size ≤ gb207)); have n8_ := Aside0.mk ((by rw [hg]; exact (below_size (by repeat (first | (with_reducible first | exact HB.out | apply below_alloc | apply pw_below_drewN | apply below_drew1 | refine below_set ?_ GE190.out | refine below_set ?_ GE197.out | refine below_set ?_ GE199.out) | exact HB.out))) : w.heap.size ≤ gb207)); have n9_ := Aside0.mk ((by rw [hg]; exact Nat.ne_of_lt (blk_lt (g := gb190) (o := .cells #[.int .u64 a2_0, .slice A2_1 l2_1.length c2_1] 50 (0, 0)) (by (with_reducible repeat (first | refine blk_drewN ?_ _ | refine blk_drew ?_ | refine blk_alloc ?_ _)); exact BK190.out)) : gb190 ≠ gb207)); have n10_ := Aside0.mk ((by rw [hg]; exact Nat.ne_of_gt (blk_lt (g := gb190) (o := .cells #[.int .u64 a2_0, .slice A2_1 l2_1.length c2_1] 50 (0, 0)) (by (with_reducible repeat (first | refine blk_drewN ?_ _ | refine blk_drew ?_ | refine blk_alloc ?_ _)); exact BK190.out)) : gb207 ≠ gb190)); have n11_ := Aside0.mk ((by rw [hg]; exact Nat.ne_of_lt (blk_lt (g := gb197) (o := .cells #[.slice Ao22 t193.length co22, .int .i64 t196] 46 (0, 0)) (by (with_reducible repeat (first | refine blk_drewN ?_ _ | refine blk_drew ?_ | refine blk_alloc ?_ _)); exact BK197.out)) : gb197 ≠ gb207)); have n12_ := Aside0.mk ((by rw [hg]; exact Nat.ne_of_gt (blk_lt (g := gb197) (o := .cells #[.slice Ao22 t193.length co22, .int .i64 t196] 46 (0, 0)) (by (with_reducible repeat (first | refine blk_drewN ?_ _ | refine blk_drew ?_ | refine blk_alloc ?_ _)); exact BK197.out)) : gb207 ≠ gb197)); have n13_ := Aside0.mk ((by rw [hg]; exact Nat.ne_of_lt (blk_lt (g := gb199) (o := .cells #[.int .u64 (rd l0 (ji16)), .slice Ao22 t193.length co22] 50 (0, 0)) (by (with_reducible repeat (first | refine blk_drewN ?_ _ | refine blk_drew ?_ | refine blk_alloc ?_ _)); exact BK199.out)) : gb199 ≠ gb207)); have n14_ := Aside0.mk ((by rw [hg]; exact Nat.ne_of_gt (blk_lt (g := gb199) (o := .cells #[.int .u64 (rd l0 (ji16)), .slice Ao22 t193.length co22] 50 (0, 0)) (by (with_reducible repeat (first | refine blk_drewN ?_ _ | refine blk_drew ?_ | refine blk_alloc ?_ _)); exact BK199.out)) : gb207 ≠ gb199)); clear HO_198000; clear HO_200001; clear BK190; clear BK197; clear BK199; clear HB; have HO_198000 := n0_; have HO_200001 := n1_; have BK190 := n2_; have BK197 := n3_; have BK199 := n4_; have HB := n5_; have BK207 := n6_; have GW207 := n7_; have GE207 := n8_; have NB190_207 := n9_; have NB207_190 := n10_; have NB197_207 := n11_; have NB207_197 := n12_; have NB199_207 := n13_; have NB207_199 := n14_; clear n0_ n1_ n2_ n3_ n4_ n5_ n6_ n7_ n8_ n9_ n10_ n11_ n12_ n13_ n14_; clear hb hbox hg; have hnb143 := NB207_190.out; have hnc143 := NB190_207.out; have hnb144 := NB207_197.out; have hnc144 := NB197_207.out; have hnb145 := NB207_199.out; have hnc145 := NB199_207.out; have hcz146_0 : w142.cell? ⟨gb207, 0, none⟩ = some (.int .u64 0) := (blk_cell BK207.out 0).trans rfl; have hcz146_1 : w142.cell? ⟨gb207, 1, none⟩ = some (.int .u64 0) := (blk_cell BK207.out 1).trans rfl; have hcz146_2 : w142.cell? ⟨gb207, 2, none⟩ = some (.int .u64 0) := (blk_cell BK207.out 2).trans rfl; have hcz146_3 : w142.cell? ⟨gb207, 3, none⟩ = some (.int .u64 0) := (blk_cell BK207.out 3).trans rfl; have hfz146_0 := blk_frozen BK207.out 0; have hfz146_1 := blk_frozen BK207.out 1; have hfz146_2 := blk_frozen BK207.out 2; have hfz146_3 := blk_frozen BK207.out 3))
                have n0_ : Aside0 (Kd.R (Kd.int .u64) 22 ((((w142.setCell ⟨gb207, 0, none⟩ (.int .u64 t202)).setCell ⟨gb207, 1, none⟩ (.int .u64 t203)).setCell ⟨gb207, 2, none⟩ (.int .u64 t204)).setCell ⟨gb207, 3, none⟩ (.int .u64 t205)) w.heap.size (fun _ => True) (.slice Ao22 t193.length co22) t193) := ⟨by (with_reducible repeat (first | apply Kd.R_alloc | apply Kd.R_drewN | apply Kd.R_drew)); exact Kd.R_mono (Kd.R_far (p := ⟨gb207, 3, none⟩) (Kd.R_far (p := ⟨gb207, 2, none⟩) (Kd.R_far (p := ⟨gb207, 1, none⟩) (Kd.R_far (p := ⟨gb207, 0, none⟩) (Kd.R_types HO_198000.out BK207.out (by decide)) (fun _ hk => by first | exact hk.2 | exact hk | exact ⟨hk.2, hk.1⟩ | simp_all) (.int .u64 t202)) (fun _ hk => by first | exact hk.2 | exact hk | exact ⟨hk.2, hk.1⟩ | simp_all) (.int .u64 t203)) (fun _ hk => by first | exact hk.2 | exact hk | exact ⟨hk.2, hk.1⟩ | simp_all) (.int .u64 t204)) (fun _ hk => by first | exact hk.2 | exact hk | exact ⟨hk.2, hk.1⟩ | simp_all) (.int .u64 t205)) (fun _ hk => trivial)⟩
                have n1_ : Aside0 (Kd.R (Kd.int .u64) 22 ((((w142.setCell ⟨gb207, 0, none⟩ (.int .u64 t202)).setCell ⟨gb207, 1, none⟩ (.int .u64 t203)).setCell ⟨gb207, 2, none⟩ (.int .u64 t204)).setCell ⟨gb207, 3, none⟩ (.int .u64 t205)) w.heap.size (fun _ => True) (.slice Ao22 t193.length co22) t193) := ⟨by (with_reducible repeat (first | apply Kd.R_alloc | apply Kd.R_drewN | apply Kd.R_drew)); exact Kd.R_mono (Kd.R_far (p := ⟨gb207, 3, none⟩) (Kd.R_far (p := ⟨gb207, 2, none⟩) (Kd.R_far (p := ⟨gb207, 1, none⟩) (Kd.R_far (p := ⟨gb207, 0, none⟩) (Kd.R_types HO_200001.out BK207.out (by decide)) (fun _ hk => by first | exact hk.2 | exact hk | exact ⟨hk.2, hk.1⟩ | simp_all) (.int .u64 t202)) (fun _ hk => by first | exact hk.2 | exact hk | exact ⟨hk.2, hk.1⟩ | simp_all) (.int .u64 t203)) (fun _ hk => by first | exact hk.2 | exact hk | exact ⟨hk.2, hk.1⟩ | simp_all) (.int .u64 t204)) (fun _ hk => by first | exact hk.2 | exact hk | exact ⟨hk.2, hk.1⟩ | simp_all) (.int .u64 t205)) (fun _ hk => trivial)⟩
                have n2_ : Aside0 (((((w142.setCell ⟨gb207, 0, none⟩ (.int .u64 t202)).setCell ⟨gb207, 1, none⟩ (.int .u64 t203)).setCell ⟨gb207, 2, none⟩ (.int .u64 t204)).setCell ⟨gb207, 3, none⟩ (.int .u64 t205)).heap[gb190]? = some (.cells #[.int .u64 a2_0, .slice A2_1 l2_1.length c2_1] 50 (0, 0))) := ⟨by (with_reducible repeat (first | refine blk_drewN ?_ _ | refine blk_drew ?_ | refine blk_alloc ?_ _)); refine blk_far ?_ NB190_207.out _; (with_reducible repeat (first | refine blk_drewN ?_ _ | refine blk_drew ?_ | refine blk_alloc ?_ _)); refine blk_far ?_ NB190_207.out _; (with_reducible repeat (first | refine blk_drewN ?_ _ | refine blk_drew ?_ | refine blk_alloc ?_ _)); refine blk_far ?_ NB190_207.out _; (with_reducible repeat (first | refine blk_drewN ?_ _ | refine blk_drew ?_ | refine blk_alloc ?_ _)); refine blk_far ?_ NB190_207.out _; (with_reducible repeat (first | refine blk_drewN ?_ _ | refine blk_drew ?_ | refine blk_alloc ?_ _)); exact BK190.out⟩
                have n3_ : Aside0 (((((w142.setCell ⟨gb207, 0, none⟩ (.int .u64 t202)).setCell ⟨gb207, 1, none⟩ (.int .u64 t203)).setCell ⟨gb207, 2, none⟩ (.int .u64 t204)).setCell ⟨gb207, 3, none⟩ (.int .u64 t205)).heap[gb197]? = some (.cells #[.slice Ao22 t193.length co22, .int .i64 t196] 46 (0, 0))) := ⟨by (with_reducible repeat (first | refine blk_drewN ?_ _ | refine blk_drew ?_ | refine blk_alloc ?_ _)); refine blk_far ?_ NB197_207.out _; (with_reducible repeat (first | refine blk_drewN ?_ _ | refine blk_drew ?_ | refine blk_alloc ?_ _)); refine blk_far ?_ NB197_207.out _; (with_reducible repeat (first | refine blk_drewN ?_ _ | refine blk_drew ?_ | refine blk_alloc ?_ _)); refine blk_far ?_ NB197_207.out _; (with_reducible repeat (first | refine blk_drewN ?_ _ | refine blk_drew ?_ | refine blk_alloc ?_ _)); refine blk_far ?_ NB197_207.out _; (with_reducible repeat (first | refine blk_drewN ?_ _ | refine blk_drew ?_ | refine blk_alloc ?_ _)); exact BK197.out⟩
                have n4_ : Aside0 (((((w142.setCell ⟨gb207, 0, none⟩ (.int .u64 t202)).setCell ⟨gb207, 1, none⟩ (.int .u64 t203)).setCell ⟨gb207, 2, none⟩ (.int .u64 t204)).setCell ⟨gb207, 3, none⟩ (.int .u64 t205)).heap[gb199]? = some (.cells #[.int .u64 (rd l0 (ji16)), .slice Ao22 t193.length co22] 50 (0, 0))) := ⟨by (with_reducible repeat (first | refine blk_drewN ?_ _ | refine blk_drew ?_ | refine blk_alloc ?_ _)); refine blk_far ?_ NB199_207.out _; (with_reducible repeat (first | refine blk_drewN ?_ _ | refine blk_drew ?_ | refine blk_alloc ?_ _)); refine blk_far ?_ NB199_207.out _; (with_reducible repeat (first | refine blk_drewN ?_ _ | refine blk_drew ?_ | refine blk_alloc ?_ _)); refine blk_far ?_ NB199_207.out _; (with_reducible repeat (first | refine blk_drewN ?_ _ | refine blk_drew ?_ | refine blk_alloc ?_ _)); refine blk_far ?_ NB199_207.out _; (with_reducible repeat (first | refine blk_drewN ?_ _ | refine blk_drew ?_ | refine blk_alloc ?_ _)); exact BK199.out⟩
                have n5_ : Aside0 (((((w142.setCell ⟨gb207, 0, none⟩ (.int .u64 t202)).setCell ⟨gb207, 1, none⟩ (.int .u64 t203)).setCell ⟨gb207, 2, none⟩ (.int .u64 t204)).setCell ⟨gb207, 3, none⟩ (.int .u64 t205)).heap[gb207]? = some (.cells #[.int .u64 t202, .int .u64 t203, .int .u64 t204, .int .u64 t205] 60 (0, 0))) := ⟨by (with_reducible repeat (first | refine blk_drewN ?_ _ | refine blk_drew ?_ | refine blk_alloc ?_ _)); refine blk_put (cs := #[.int .u64 t202, .int .u64 t203, .int .u64 t204, .int .u64 0]) ?_ 3 _ rfl; (with_reducible repeat (first | refine blk_drewN ?_ _ | refine blk_drew ?_ | refine blk_alloc ?_ _)); refine blk_put (cs := #[.int .u64 t202, .int .u64 t203, .int .u64 0, .int .u64 0]) ?_ 2 _ rfl; (with_reducible repeat (first | refine blk_drewN ?_ _ | refine blk_drew ?_ | refine blk_alloc ?_ _)); refine blk_put (cs := #[.int .u64 t202, .int .u64 0, .int .u64 0, .int .u64 0]) ?_ 1 _ rfl; (with_reducible repeat (first | refine blk_drewN ?_ _ | refine blk_drew ?_ | refine blk_alloc ?_ _)); refine blk_put (cs := #[.int .u64 0, .int .u64 0, .int .u64 0, .int .u64 0]) ?_ 0 _ rfl; (with_reducible repeat (first | refine blk_drewN ?_ _ | refine blk_drew ?_ | refine blk_alloc ?_ _)); exact BK207.out⟩
                have n6_ : Aside0 (Below w.heap.size w ((((w142.setCell ⟨gb207, 0, none⟩ (.int .u64 t202)).setCell ⟨gb207, 1, none⟩ (.int .u64 t203)).setCell ⟨gb207, 2, none⟩ (.int .u64 t204)).setCell ⟨gb207, 3, none⟩ (.int .u64 t205))) := ⟨by repeat (first | (with_reducible first | exact HB.out | apply below_alloc | apply pw_below_drewN | apply below_drew1 | refine below_set ?_ GE190.out | refine below_set ?_ GE197.out | refine below_set ?_ GE199.out | refine below_set ?_ GE207.out) | exact HB.out)⟩
                (try clear HO_198000)
                (try clear HO_200001)
                (try clear BK190)
                (try clear BK197)
                (try clear BK199)
                (try clear BK207)
                (try clear HB)
                generalize ((((w142.setCell ⟨gb207, 0, none⟩ (.int .u64 t202)).setCell ⟨gb207, 1, none⟩ (.int .u64 t203)).setCell ⟨gb207, 2, none⟩ (.int .u64 t204)).setCell ⟨gb207, 3, none⟩ (.int .u64 t205)) = w147 at n0_ n1_ n2_ n3_ n4_ n5_ n6_ ⊢
                have HO_198000 := n0_
                have HO_200001 := n1_
                have BK190 := n2_
                have BK197 := n3_
                have BK199 := n4_
                have BK207 := n5_
                have HB := n6_
                clear n0_ n1_ n2_ n3_ n4_ n5_ n6_
                have n0_ := Aside0.mk (Kd.R_drew HO_198000.out)
                have n1_ := Aside0.mk (Kd.R_drew HO_200001.out)
                have n2_ := Aside0.mk (blk_drew BK190.out)
                have n3_ := Aside0.mk (blk_drew BK197.out)
                have n4_ := Aside0.mk (blk_drew BK199.out)
                have n5_ := Aside0.mk (blk_drew BK207.out)
                have n6_ := Aside0.mk (below_drew1 HB.out)
                clear HO_198000
                clear HO_200001
                clear BK190
                clear BK197
                clear BK199
                clear BK207
                clear HB
                have HO_198000 := n0_
                have HO_200001 := n1_
                have BK190 := n2_
                have BK197 := n3_
                have BK199 := n4_
                have BK207 := n5_
                have HB := n6_
                clear n0_ n1_ n2_ n3_ n4_ n5_ n6_
                refine start_ (n := 25) (S := fun w' => True) (ds := []) #[false, false, false, false, false, false, false, false, false, false, false, false, false, false, false, false, false, false, false, false, false, false, false, false, false] (by kernel_rfl) rfl rfl trivial (fun hHeld => ?_); refine with_tabW parolelaw04_MerkleBinds.tab14 parolelaw04_MerkleBinds.bits14 (fun HT_ HW_ => ?_)
                generalize w147.drew = w148 at HO_198000 HO_200001 BK190 BK197 BK199 BK207 HB hHeld ⊢
                refine pure_ (i := 0) (N := some 83) (v := ?_) (a' := ?_) (bl_15 25 1) rfl rfl (any_of HT_.out (by kernel_rfl)) (fun _ _ _ h => h) (Or.inl ⟨by rfl, ?_⟩) ?_ ?_; rotate_left; (· intro w'; go_simp; with_reducible rfl); rotate_left; (· simp only [Act.put, setIfInBounds_toArray, set_cons_zero, set_cons_succ, i64_w, i32_w]; rfl)
                refine pure_ (i := 1) (N := some 84) (v := ?_) (a' := ?_) (bl_15 25 3) rfl rfl (any_of HT_.out (by kernel_rfl)) (fun _ _ _ h => h) (Or.inl ⟨by rfl, ?_⟩) ?_ ?_; rotate_left; (· intro w'; go_simp; with_reducible rfl); rotate_left; (· simp only [Act.put, setIfInBounds_toArray, set_cons_zero, set_cons_succ, i64_w, i32_w]; rfl)
                refine pure_ (i := 2) (N := some 85) (v := undef) (a' := ?_) (bl_15 25 7) rfl rfl (any_of HT_.out (by kernel_rfl)) (fun _ _ _ h => h) (Or.inr ⟨by rfl, rfl⟩) ?_ ?_; rotate_left; (· simp only [Act.put, setIfInBounds_toArray, set_cons_zero, set_cons_succ, i64_w, i32_w]; rfl)
                refine pure_ (i := 3) (N := some 86) (v := undef) (a' := ?_) (bl_15 25 15) rfl rfl (any_of HT_.out (by kernel_rfl)) (fun _ _ _ h => h) (Or.inr ⟨by rfl, rfl⟩) ?_ ?_; rotate_left; (· simp only [Act.put, setIfInBounds_toArray, set_cons_zero, set_cons_succ, i64_w, i32_w]; rfl)
                refine pure_ (i := 4) (N := some 87) (v := undef) (a' := ?_) (bl_15 25 31) rfl rfl (any_of HT_.out (by kernel_rfl)) (fun _ _ _ h => h) (Or.inr ⟨by rfl, rfl⟩) ?_ ?_; rotate_left; (· simp only [Act.put, setIfInBounds_toArray, set_cons_zero, set_cons_succ, i64_w, i32_w]; rfl)
                refine pure_ (i := 5) (N := some 88) (v := undef) (a' := ?_) (bl_15 25 63) rfl rfl (any_of HT_.out (by kernel_rfl)) (fun _ _ _ h => h) (Or.inr ⟨by rfl, rfl⟩) ?_ ?_; rotate_left; (· simp only [Act.put, setIfInBounds_toArray, set_cons_zero, set_cons_succ, i64_w, i32_w]; rfl)
                refine pure_ (i := 6) (N := some 89) (v := undef) (a' := ?_) (bl_15 25 127) rfl rfl (any_of HT_.out (by kernel_rfl)) (fun _ _ _ h => h) (Or.inr ⟨by rfl, rfl⟩) ?_ ?_; rotate_left; (· simp only [Act.put, setIfInBounds_toArray, set_cons_zero, set_cons_succ, i64_w, i32_w]; rfl)
                refine pure_ (i := 7) (N := some 90) (v := undef) (a' := ?_) (bl_15 25 255) rfl rfl (any_of HT_.out (by kernel_rfl)) (fun _ _ _ h => h) (Or.inr ⟨by rfl, rfl⟩) ?_ ?_; rotate_left; (· simp only [Act.put, setIfInBounds_toArray, set_cons_zero, set_cons_succ, i64_w, i32_w]; rfl)
                refine pure_ (i := 8) (N := some 91) (v := undef) (a' := ?_) (bl_15 25 511) rfl rfl (any_of HT_.out (by kernel_rfl)) (fun _ _ _ h => h) (Or.inr ⟨by rfl, rfl⟩) ?_ ?_; rotate_left; (· simp only [Act.put, setIfInBounds_toArray, set_cons_zero, set_cons_succ, i64_w, i32_w]; rfl)
                refine pure_ (i := 9) (N := some 92) (v := undef) (a' := ?_) (bl_15 25 1023) rfl rfl (any_of HT_.out (by kernel_rfl)) (fun _ _ _ h => h) (Or.inr ⟨by rfl, rfl⟩) ?_ ?_; rotate_left; (· simp only [Act.put, setIfInBounds_toArray, set_cons_zero, set_cons_succ, i64_w, i32_w]; rfl)
                refine pure_ (i := 10) (N := some 93) (v := undef) (a' := ?_) (bl_15 25 2047) rfl rfl (any_of HT_.out (by kernel_rfl)) (fun _ _ _ h => h) (Or.inr ⟨by rfl, rfl⟩) ?_ ?_; rotate_left; (· simp only [Act.put, setIfInBounds_toArray, set_cons_zero, set_cons_succ, i64_w, i32_w]; rfl)
                refine pure_ (i := 11) (N := some 94) (v := undef) (a' := ?_) (bl_15 25 4095) rfl rfl (any_of HT_.out (by kernel_rfl)) (fun _ _ _ h => h) (Or.inr ⟨by rfl, rfl⟩) ?_ ?_; rotate_left; (· simp only [Act.put, setIfInBounds_toArray, set_cons_zero, set_cons_succ, i64_w, i32_w]; rfl)
                refine pure_ (i := 12) (N := some 95) (v := undef) (a' := ?_) (bl_15 25 8191) rfl rfl (any_of HT_.out (by kernel_rfl)) (fun _ _ _ h => h) (Or.inr ⟨by rfl, rfl⟩) ?_ ?_; rotate_left; (· simp only [Act.put, setIfInBounds_toArray, set_cons_zero, set_cons_succ, i64_w, i32_w]; rfl)
                refine pure_ (i := 13) (N := some 96) (v := undef) (a' := ?_) (bl_15 25 16383) rfl rfl (any_of HT_.out (by kernel_rfl)) (fun _ _ _ h => h) (Or.inr ⟨by rfl, rfl⟩) ?_ ?_; rotate_left; (· simp only [Act.put, setIfInBounds_toArray, set_cons_zero, set_cons_succ, i64_w, i32_w]; rfl)
                refine pure_ (i := 14) (N := some 97) (v := undef) (a' := ?_) (bl_15 25 32767) rfl rfl (any_of HT_.out (by kernel_rfl)) (fun _ _ _ h => h) (Or.inr ⟨by rfl, rfl⟩) ?_ ?_; rotate_left; (· simp only [Act.put, setIfInBounds_toArray, set_cons_zero, set_cons_succ, i64_w, i32_w]; rfl)
                refine pure_ (i := 15) (N := some 98) (v := undef) (a' := ?_) (bl_15 25 65535) rfl rfl (any_of HT_.out (by kernel_rfl)) (fun _ _ _ h => h) (Or.inr ⟨by rfl, rfl⟩) ?_ ?_; rotate_left; (· simp only [Act.put, setIfInBounds_toArray, set_cons_zero, set_cons_succ, i64_w, i32_w]; rfl)
                refine pure_ (i := 16) (N := some 99) (v := undef) (a' := ?_) (bl_15 25 131071) rfl rfl (any_of HT_.out (by kernel_rfl)) (fun _ _ _ h => h) (Or.inr ⟨by rfl, rfl⟩) ?_ ?_; rotate_left; (· simp only [Act.put, setIfInBounds_toArray, set_cons_zero, set_cons_succ, i64_w, i32_w]; rfl)
                refine pure_ (i := 17) (N := some 100) (v := undef) (a' := ?_) (bl_15 25 262143) rfl rfl (any_of HT_.out (by kernel_rfl)) (fun _ _ _ h => h) (Or.inr ⟨by rfl, rfl⟩) ?_ ?_; rotate_left; (· simp only [Act.put, setIfInBounds_toArray, set_cons_zero, set_cons_succ, i64_w, i32_w]; rfl)
                refine pure_ (i := 18) (N := some 101) (v := undef) (a' := ?_) (bl_15 25 524287) rfl rfl (any_of HT_.out (by kernel_rfl)) (fun _ _ _ h => h) (Or.inr ⟨by rfl, rfl⟩) ?_ ?_; rotate_left; (· simp only [Act.put, setIfInBounds_toArray, set_cons_zero, set_cons_succ, i64_w, i32_w]; rfl)
                refine pure_ (i := 19) (N := some 102) (v := undef) (a' := ?_) (bl_15 25 1048575) rfl rfl (any_of HT_.out (by kernel_rfl)) (fun _ _ _ h => h) (Or.inr ⟨by rfl, rfl⟩) ?_ ?_; rotate_left; (· simp only [Act.put, setIfInBounds_toArray, set_cons_zero, set_cons_succ, i64_w, i32_w]; rfl)
                refine pure_ (i := 20) (N := some 103) (v := undef) (a' := ?_) (bl_15 25 2097151) rfl rfl (any_of HT_.out (by kernel_rfl)) (fun _ _ _ h => h) (Or.inr ⟨by rfl, rfl⟩) ?_ ?_; rotate_left; (· simp only [Act.put, setIfInBounds_toArray, set_cons_zero, set_cons_succ, i64_w, i32_w]; rfl)
                refine pure_ (i := 21) (N := some 104) (v := undef) (a' := ?_) (bl_15 25 4194303) rfl rfl (any_of HT_.out (by kernel_rfl)) (fun _ _ _ h => h) (Or.inr ⟨by rfl, rfl⟩) ?_ ?_; rotate_left; (· simp only [Act.put, setIfInBounds_toArray, set_cons_zero, set_cons_succ, i64_w, i32_w]; rfl)
                refine pure_ (i := 22) (N := some 105) (v := undef) (a' := ?_) (bl_15 25 8388607) rfl rfl (any_of HT_.out (by kernel_rfl)) (fun _ _ _ h => h) (Or.inr ⟨by rfl, rfl⟩) ?_ ?_; rotate_left; (· simp only [Act.put, setIfInBounds_toArray, set_cons_zero, set_cons_succ, i64_w, i32_w]; rfl)
                refine pure_ (i := 23) (N := some 106) (v := undef) (a' := ?_) (bl_15 25 16777215) rfl rfl (any_of HT_.out (by kernel_rfl)) (fun _ _ _ h => h) (Or.inr ⟨by rfl, rfl⟩) ?_ ?_; rotate_left; (· simp only [Act.put, setIfInBounds_toArray, set_cons_zero, set_cons_succ, i64_w, i32_w]; rfl)
                refine pure_ (i := 24) (N := some 107) (v := ?_) (a' := ?_) (bl_15 25 33554431) rfl rfl (any_of HT_.out (by kernel_rfl)) (fun _ _ _ h => h) (Or.inl ⟨by rfl, ?_⟩) ?_ ?_; rotate_left; (· intro w'; go_simp; with_reducible rfl); rotate_left; (· simp only [Act.put, setIfInBounds_toArray, set_cons_zero, set_cons_succ, i64_w, i32_w]; rfl)
                refine done_ (done_of HT_.out (by kernel_rfl)) ?_
                have hcz149_0 : w148.cell? ⟨gb190, 0, none⟩ = some (.int .u64 a2_0) := (blk_cell BK190.out 0).trans rfl
                have hcz149_1 : w148.cell? ⟨gb190, 1, none⟩ = some (.slice A2_1 l2_1.length c2_1) := (blk_cell BK190.out 1).trans rfl
                have hfz149_0 := blk_frozen BK190.out 0
                have hfz149_1 := blk_frozen BK190.out 1
                try go_wp2_with (first | ((with_reducible refine gate_callee (f := 35) rfl ?_); refine goesL_ (some 113) rfl rfl Try.func35 (by kernel_rfl) rfl #[.int .u64 t192, .int .i64 (l0.length : Int), .int .i64 ji16, .agg #[.int .u64 a2_0, .slice A2_1 l2_1.length c2_1]] rfl (by (try simp only [map_toArray, map_cons, map_nil]); first | done | (simp only [hji16]; rfl) | rfl) ?_; (with_reducible refine (parolelaw04_check.calls t192 (l0.length : Int) ji16 a2_0 _ _ l2_1 t214 _ ?side1 ?side2 A133.out).mono ?_); (case side1 => repeat (first | exact (Kd.C_below HR2_1.out HB.out) | (with_reducible refine Kd.C_alloc ?_ _) | (with_reducible refine Kd.C_drewN ?_ _) | (with_reducible refine Kd.C_drew ?_))); (case side2 => exact HC2_1.out); rintro e w150 ⟨rfl, hb⟩; refine ⟨_, rfl, ?_⟩; have n0_ := Aside0.mk (Kd.R_below (by (with_reducible repeat (first | apply Kd.R_alloc | apply Kd.R_drewN | apply Kd.R_drew)); exact HO_198000.out) hb); have n1_ := Aside0.mk (Kd.R_below (by (with_reducible repeat (first | apply Kd.R_alloc | apply Kd.R_drewN | apply Kd.R_drew)); exact HO_200001.out) hb); have n2_ := Aside0.mk (blk_below (g := gb190) (o := .cells #[.int .u64 a2_0, .slice A2_1 l2_1.length c2_1] 50 (0, 0)) (by (with_reducible repeat (first | refine blk_drewN ?_ _ | refine blk_drew ?_ | refine blk_alloc ?_ _)); exact BK190.out) hb); have n3_ := Aside0.mk (blk_below (g := gb197) (o := .cells #[.slice Ao22 t193.length co22, .int .i64 t196] 46 (0, 0)) (by (with_reducible repeat (first | refine blk_drewN ?_ _ | refine blk_drew ?_ | refine blk_alloc ?_ _)); exact BK197.out) hb); have n4_ := Aside0.mk (blk_below (g := gb199) (o := .cells #[.int .u64 (rd l0 (ji16)), .slice Ao22 t193.length co22] 50 (0, 0)) (by (with_reducible repeat (first | refine blk_drewN ?_ _ | refine blk_drew ?_ | refine blk_alloc ?_ _)); exact BK199.out) hb); have n5_ := Aside0.mk (blk_below (g := gb207) (o := .cells #[.int .u64 t202, .int .u64 t203, .int .u64 t204, .int .u64 t205] 60 (0, 0)) (by (with_reducible repeat (first | refine blk_drewN ?_ _ | refine blk_drew ?_ | refine blk_alloc ?_ _)); exact BK207.out) hb); have n6_ := Aside0.mk (below_step (by repeat (first | (with_reducible first | exact HB.out | apply below_alloc | apply pw_below_drewN | apply below_drew1 | refine below_set ?_ GE190.out | refine below_set ?_ GE197.out | refine below_set ?_ GE199.out | refine below_set ?_ GE207.out) | exact HB.out)) hb); clear HO_198000; clear HO_200001; clear BK190; clear BK197; clear BK199; clear BK207; clear HB; have HO_198000 := n0_; have HO_200001 := n1_; have BK190 := n2_; have BK197 := n3_; have BK199 := n4_; have BK207 := n5_; have HB := n6_; clear n0_ n1_ n2_ n3_ n4_ n5_ n6_; (try clear hb); (try clear hb2); (try clear hk); (try clear hi)))
                go_ret
                exact ⟨by first | rfl | (simp [errW_none, errW_some] <;> rfl) | (simp only [← hji16]; first | rfl | (simp [errW_none, errW_some] <;> rfl)) | (simp [*, errW_none, errW_some] <;> rfl), by repeat (first | (with_reducible first | exact HB.out | apply below_alloc | apply pw_below_drewN | apply below_drew1 | refine below_set ?_ GE190.out | refine below_set ?_ GE197.out | refine below_set ?_ GE199.out | refine below_set ?_ GE207.out) | exact HB.out)⟩
               ·
                replace c135 := Bool.eq_false_iff.mpr c135
                subst c135
                have H1 : (none) = some r := by rw [if_neg (show ¬ (false = true) by decide)] at H; exact H
                clear H
                have H := H1
                clear H1
                exact absurd H (by simp)
              ·
               rw [if_neg c134] at H
               have c134b0 : (t214 == 0) = false := beq_eq_false_iff_ne.mpr c134
               have c134b1 : (t214 != 0) = true := bne_iff_ne.mpr c134
               by_cases c151 : x12_41 = true
               ·
                subst c151
                have H1 : (some true) = some r := by rw [if_pos rfl] at H; exact H
                clear H
                have H := H1
                clear H1
                obtain rfl := Option.some.inj H
                have hnb152 := NB199_190.out
                have hnc152 := NB190_199.out
                have hnb153 := NB199_197.out
                have hnc153 := NB197_199.out
                have hcz154_0 : wc.cell? ⟨gb199, 0, none⟩ = some (.int .u64 (rd l0 (ji16))) := (blk_cell BK199.out 0).trans rfl
                have hcz154_1 : wc.cell? ⟨gb199, 1, none⟩ = some (.slice Ao22 t193.length co22) := (blk_cell BK199.out 1).trans rfl
                have hfz154_0 := blk_frozen BK199.out 0
                have hfz154_1 := blk_frozen BK199.out 1
                have hnb155 := NB190_197.out
                have hnc155 := NB197_190.out
                have hcz156_0 : wc.cell? ⟨gb190, 0, none⟩ = some (.int .u64 a2_0) := (blk_cell BK190.out 0).trans rfl
                have hcz156_1 : wc.cell? ⟨gb190, 1, none⟩ = some (.slice A2_1 l2_1.length c2_1) := (blk_cell BK190.out 1).trans rfl
                have hfz156_0 := blk_frozen BK190.out 0
                have hfz156_1 := blk_frozen BK190.out 1
                try go_wp2_with (first | ((with_reducible refine gate_callee (f := 40) rfl ?_); refine goesL_ (some 80) rfl rfl Try.func40 (by kernel_rfl) rfl #[.int .i64 (l0.length : Int), .int .i64 ji16, .agg #[.int .u64 (rd l0 (ji16)), .slice Ao22 t193.length co22], .agg #[.int .u64 a2_0, .slice A2_1 l2_1.length c2_1]] rfl (by (try simp only [map_toArray, map_cons, map_nil]); first | done | (simp only [hji16]; rfl) | rfl) ?_; (with_reducible refine (merkle_Collide.calls kj41 (l0.length : Int) ji16 (rd l0 (ji16)) _ _ t193 a2_0 _ _ l2_1 t202 t203 t204 t205 false _ ?side1 ?side2 ?side3 ?side4 A55.out).mono ?_); (case side1 => repeat (first | exact (Kd.R_reads' HO_200001.out).2.2 | (with_reducible refine Kd.C_alloc ?_ _) | (with_reducible refine Kd.C_drewN ?_ _) | (with_reducible refine Kd.C_drew ?_))); (case side2 => exact (Kd.R_reads' HO_200001.out).2.1); (case side3 => repeat (first | exact (Kd.C_below HR2_1.out HB.out) | (with_reducible refine Kd.C_alloc ?_ _) | (with_reducible refine Kd.C_drewN ?_ _) | (with_reducible refine Kd.C_drew ?_))); (case side4 => exact HC2_1.out); rintro e w157 ⟨rfl, hb⟩; refine ⟨_, rfl, ?_⟩; have n0_ := Aside0.mk (Kd.R_below (by (with_reducible repeat (first | apply Kd.R_alloc | apply Kd.R_drewN | apply Kd.R_drew)); exact HO_198000.out) hb); have n1_ := Aside0.mk (Kd.R_below (by (with_reducible repeat (first | apply Kd.R_alloc | apply Kd.R_drewN | apply Kd.R_drew)); exact HO_200001.out) hb); have n2_ := Aside0.mk (blk_below (g := gb190) (o := .cells #[.int .u64 a2_0, .slice A2_1 l2_1.length c2_1] 50 (0, 0)) (by (with_reducible repeat (first | refine blk_drewN ?_ _ | refine blk_drew ?_ | refine blk_alloc ?_ _)); exact BK190.out) hb); have n3_ := Aside0.mk (blk_below (g := gb197) (o := .cells #[.slice Ao22 t193.length co22, .int .i64 t196] 46 (0, 0)) (by (with_reducible repeat (first | refine blk_drewN ?_ _ | refine blk_drew ?_ | refine blk_alloc ?_ _)); exact BK197.out) hb); have n4_ := Aside0.mk (blk_below (g := gb199) (o := .cells #[.int .u64 (rd l0 (ji16)), .slice Ao22 t193.length co22] 50 (0, 0)) (by (with_reducible repeat (first | refine blk_drewN ?_ _ | refine blk_drew ?_ | refine blk_alloc ?_ _)); exact BK199.out) hb); have n5_ := Aside0.mk (below_step (by repeat (first | (with_reducible first | exact HB.out | apply below_alloc | apply pw_below_drewN | apply below_drew1 | refine below_set ?_ GE190.out | refine below_set ?_ GE197.out | refine below_set ?_ GE199.out) | exact HB.out)) hb); clear HO_198000; clear HO_200001; clear BK190; clear BK197; clear BK199; clear HB; have HO_198000 := n0_; have HO_200001 := n1_; have BK190 := n2_; have BK197 := n3_; have BK199 := n4_; have HB := n5_; clear n0_ n1_ n2_ n3_ n4_ n5_; (try clear hb); (try clear hb2); (try clear hk); (try clear hi)) | ((with_reducible refine gate_dst (N := 13) rfl ?_); (try (refine gate_guard (by rfl) ?_; dsimp only)); refine box_event ?hg (N := 13) ?hd (cs := #[.int .u64 0, .int .u64 0, .int .u64 0, .int .u64 0]) (t := 60) ?hr ?_; (case hd => rfl); (case hg => rfl); (case hr => first | (go_simp; done) | (go_simp; rfl)); intro gb207 hg w158 hbox hb; have n0_ := Aside0.mk (Kd.R_below (by (with_reducible repeat (first | apply Kd.R_alloc | apply Kd.R_drewN | apply Kd.R_drew)); exact HO_198000.out) hb); have n1_ := Aside0.mk (Kd.R_below (by (with_reducible repeat (first | apply Kd.R_alloc | apply Kd.R_drewN | apply Kd.R_drew)); exact HO_200001.out) hb); have n2_ := Aside0.mk (blk_below (g := gb190) (o := .cells #[.int .u64 a2_0, .slice A2_1 l2_1.length c2_1] 50 (0, 0)) (by (with_reducible repeat (first | refine blk_drewN ?_ _ | refine blk_drew ?_ | refine blk_alloc ?_ _)); exact BK190.out) hb); have n3_ := Aside0.mk (blk_below (g := gb197) (o := .cells #[.slice Ao22 t193.length co22, .int .i64 t196] 46 (0, 0)) (by (with_reducible repeat (first | refine blk_drewN ?_ _ | refine blk_drew ?_ | refine blk_alloc ?_ _)); exact BK197.out) hb); have n4_ := Aside0.mk (blk_below (g := gb199) (o := .cells #[.int .u64 (rd l0 (ji16)), .slice Ao22 t193.length co22] 50 (0, 0)) (by (with_reducible repeat (first | refine blk_drewN ?_ _ | refine blk_drew ?_ | refine blk_alloc ?_ _)); exact BK199.out) hb); have n5_ := Aside0.mk (below_step (by repeat (first | (with_reducible first | exact HB.out | apply below_alloc | apply pw_below_drewN | apply below_drew1 | refine below_set ?_ GE190.out | refine below_set ?_ GE197.out | refine below_set ?_ GE199.out) | exact HB.out)) hb); have n6_ := Aside0.mk (hbox); have n7_ := Aside0.mk ((by rw [hg]; exact (below_size (by repeat (first | (with_reducible first | exact HB.out | apply below_alloc | apply pw_below_drewN | apply below_drew1 | refine below_set ?_ GE190.out | refine below_set ?_ GE197.out | refine below_set ?_ GE199.out) | exact HB.out))) : w.heap.size ≤ gb207)); have n8_ := Aside0.mk ((by rw [hg]; exact (below_size (by repeat (first | (with_reducible first | exact HB.out | apply below_alloc | apply pw_below_drewN | apply below_drew1 | refine below_set ?_ GE190.out | refine below_set ?_ GE197.out | refine below_set ?_ GE199.out) | exact HB.out))) : w.heap.size ≤ gb207)); have n9_ := Aside0.mk ((by rw [hg]; exact Nat.ne_of_lt (blk_lt (g := gb190) (o := .cells #[.int .u64 a2_0, .slice A2_1 l2_1.length c2_1] 50 (0, 0)) (by (with_reducible repeat (first | refine blk_drewN ?_ _ | refine blk_drew ?_ | refine blk_alloc ?_ _)); exact BK190.out)) : gb190 ≠ gb207)); have n10_ := Aside0.mk ((by rw [hg]; exact Nat.ne_of_gt (blk_lt (g := gb190) (o := .cells #[.int .u64 a2_0, .slice A2_1 l2_1.length c2_1] 50 (0, 0)) (by (with_reducible repeat (first | refine blk_drewN ?_ _ | refine blk_drew ?_ | refine blk_alloc ?_ _)); exact BK190.out)) : gb207 ≠ gb190)); have n11_ := Aside0.mk ((by rw [hg]; exact Nat.ne_of_lt (blk_lt (g := gb197) (o := .cells #[.slice Ao22 t193.length co22, .int .i64 t196] 46 (0, 0)) (by (with_reducible repeat (first | refine blk_drewN ?_ _ | refine blk_drew ?_ | refine blk_alloc ?_ _)); exact BK197.out)) : gb197 ≠ gb207)); have n12_ := Aside0.mk ((by rw [hg]; exact Nat.ne_of_gt (blk_lt (g := gb197) (o := .cells #[.slice Ao22 t193.length co22, .int .i64 t196] 46 (0, 0)) (by (with_reducible repeat (first | refine blk_drewN ?_ _ | refine blk_drew ?_ | refine blk_alloc ?_ _)); exact BK197.out)) : gb207 ≠ gb197)); have n13_ := Aside0.mk ((by rw [hg]; exact Nat.ne_of_lt (blk_lt (g := gb199) (o := .cells #[.int .u64 (rd l0 (ji16)), .slice Ao22 t193.length co22] 50 (0, 0)) (by (with_reducible repeat (first | refine blk_drewN ?_ _ | refine blk_drew ?_ | refine blk_alloc ?_ _)); exact BK199.out)) : gb199 ≠ gb207)); have n14_ := Aside0.mk ((by rw [hg]; exact Nat.ne_of_gt (blk_lt (g := gb199) (o := .cells #[.int .u64 (rd l0 (ji16)), .slice Ao22 t193.length co22] 50 (0, 0)) (by (with_reducible repeat (first | refine blk_drewN ?_ _ | refine blk_drew ?_ | refine blk_alloc ?_ _)); exact BK199.out)) : gb207 ≠ gb199)); clear HO_198000; clear HO_200001; clear BK190; clear BK197; clear BK199; clear HB; have HO_198000 := n0_; have HO_200001 := n1_; have BK190 := n2_; have BK197 := n3_; have BK199 := n4_; have HB := n5_; have BK207 := n6_; have GW207 := n7_; have GE207 := n8_; have NB190_207 := n9_; have NB207_190 := n10_; have NB197_207 := n11_; have NB207_197 := n12_; have NB199_207 := n13_; have NB207_199 := n14_; clear n0_ n1_ n2_ n3_ n4_ n5_ n6_ n7_ n8_ n9_ n10_ n11_ n12_ n13_ n14_; clear hb hbox hg; have hnb159 := NB207_190.out; have hnc159 := NB190_207.out; have hnb160 := NB207_197.out; have hnc160 := NB197_207.out; have hnb161 := NB207_199.out; have hnc161 := NB199_207.out; have hcz162_0 : w158.cell? ⟨gb207, 0, none⟩ = some (.int .u64 0) := (blk_cell BK207.out 0).trans rfl; have hcz162_1 : w158.cell? ⟨gb207, 1, none⟩ = some (.int .u64 0) := (blk_cell BK207.out 1).trans rfl; have hcz162_2 : w158.cell? ⟨gb207, 2, none⟩ = some (.int .u64 0) := (blk_cell BK207.out 2).trans rfl; have hcz162_3 : w158.cell? ⟨gb207, 3, none⟩ = some (.int .u64 0) := (blk_cell BK207.out 3).trans rfl; have hfz162_0 := blk_frozen BK207.out 0; have hfz162_1 := blk_frozen BK207.out 1; have hfz162_2 := blk_frozen BK207.out 2; have hfz162_3 := blk_frozen BK207.out 3))
                have n0_ : Aside0 (Kd.R (Kd.int .u64) 22 ((((w158.setCell ⟨gb207, 0, none⟩ (.int .u64 t202)).setCell ⟨gb207, 1, none⟩ (.int .u64 t203)).setCell ⟨gb207, 2, none⟩ (.int .u64 t204)).setCell ⟨gb207, 3, none⟩ (.int .u64 t205)) w.heap.size (fun _ => True) (.slice Ao22 t193.length co22) t193) := ⟨by (with_reducible repeat (first | apply Kd.R_alloc | apply Kd.R_drewN | apply Kd.R_drew)); exact Kd.R_mono (Kd.R_far (p := ⟨gb207, 3, none⟩) (Kd.R_far (p := ⟨gb207, 2, none⟩) (Kd.R_far (p := ⟨gb207, 1, none⟩) (Kd.R_far (p := ⟨gb207, 0, none⟩) (Kd.R_types HO_198000.out BK207.out (by decide)) (fun _ hk => by first | exact hk.2 | exact hk | exact ⟨hk.2, hk.1⟩ | simp_all) (.int .u64 t202)) (fun _ hk => by first | exact hk.2 | exact hk | exact ⟨hk.2, hk.1⟩ | simp_all) (.int .u64 t203)) (fun _ hk => by first | exact hk.2 | exact hk | exact ⟨hk.2, hk.1⟩ | simp_all) (.int .u64 t204)) (fun _ hk => by first | exact hk.2 | exact hk | exact ⟨hk.2, hk.1⟩ | simp_all) (.int .u64 t205)) (fun _ hk => trivial)⟩
                have n1_ : Aside0 (Kd.R (Kd.int .u64) 22 ((((w158.setCell ⟨gb207, 0, none⟩ (.int .u64 t202)).setCell ⟨gb207, 1, none⟩ (.int .u64 t203)).setCell ⟨gb207, 2, none⟩ (.int .u64 t204)).setCell ⟨gb207, 3, none⟩ (.int .u64 t205)) w.heap.size (fun _ => True) (.slice Ao22 t193.length co22) t193) := ⟨by (with_reducible repeat (first | apply Kd.R_alloc | apply Kd.R_drewN | apply Kd.R_drew)); exact Kd.R_mono (Kd.R_far (p := ⟨gb207, 3, none⟩) (Kd.R_far (p := ⟨gb207, 2, none⟩) (Kd.R_far (p := ⟨gb207, 1, none⟩) (Kd.R_far (p := ⟨gb207, 0, none⟩) (Kd.R_types HO_200001.out BK207.out (by decide)) (fun _ hk => by first | exact hk.2 | exact hk | exact ⟨hk.2, hk.1⟩ | simp_all) (.int .u64 t202)) (fun _ hk => by first | exact hk.2 | exact hk | exact ⟨hk.2, hk.1⟩ | simp_all) (.int .u64 t203)) (fun _ hk => by first | exact hk.2 | exact hk | exact ⟨hk.2, hk.1⟩ | simp_all) (.int .u64 t204)) (fun _ hk => by first | exact hk.2 | exact hk | exact ⟨hk.2, hk.1⟩ | simp_all) (.int .u64 t205)) (fun _ hk => trivial)⟩
                have n2_ : Aside0 (((((w158.setCell ⟨gb207, 0, none⟩ (.int .u64 t202)).setCell ⟨gb207, 1, none⟩ (.int .u64 t203)).setCell ⟨gb207, 2, none⟩ (.int .u64 t204)).setCell ⟨gb207, 3, none⟩ (.int .u64 t205)).heap[gb190]? = some (.cells #[.int .u64 a2_0, .slice A2_1 l2_1.length c2_1] 50 (0, 0))) := ⟨by (with_reducible repeat (first | refine blk_drewN ?_ _ | refine blk_drew ?_ | refine blk_alloc ?_ _)); refine blk_far ?_ NB190_207.out _; (with_reducible repeat (first | refine blk_drewN ?_ _ | refine blk_drew ?_ | refine blk_alloc ?_ _)); refine blk_far ?_ NB190_207.out _; (with_reducible repeat (first | refine blk_drewN ?_ _ | refine blk_drew ?_ | refine blk_alloc ?_ _)); refine blk_far ?_ NB190_207.out _; (with_reducible repeat (first | refine blk_drewN ?_ _ | refine blk_drew ?_ | refine blk_alloc ?_ _)); refine blk_far ?_ NB190_207.out _; (with_reducible repeat (first | refine blk_drewN ?_ _ | refine blk_drew ?_ | refine blk_alloc ?_ _)); exact BK190.out⟩
                have n3_ : Aside0 (((((w158.setCell ⟨gb207, 0, none⟩ (.int .u64 t202)).setCell ⟨gb207, 1, none⟩ (.int .u64 t203)).setCell ⟨gb207, 2, none⟩ (.int .u64 t204)).setCell ⟨gb207, 3, none⟩ (.int .u64 t205)).heap[gb197]? = some (.cells #[.slice Ao22 t193.length co22, .int .i64 t196] 46 (0, 0))) := ⟨by (with_reducible repeat (first | refine blk_drewN ?_ _ | refine blk_drew ?_ | refine blk_alloc ?_ _)); refine blk_far ?_ NB197_207.out _; (with_reducible repeat (first | refine blk_drewN ?_ _ | refine blk_drew ?_ | refine blk_alloc ?_ _)); refine blk_far ?_ NB197_207.out _; (with_reducible repeat (first | refine blk_drewN ?_ _ | refine blk_drew ?_ | refine blk_alloc ?_ _)); refine blk_far ?_ NB197_207.out _; (with_reducible repeat (first | refine blk_drewN ?_ _ | refine blk_drew ?_ | refine blk_alloc ?_ _)); refine blk_far ?_ NB197_207.out _; (with_reducible repeat (first | refine blk_drewN ?_ _ | refine blk_drew ?_ | refine blk_alloc ?_ _)); exact BK197.out⟩
                have n4_ : Aside0 (((((w158.setCell ⟨gb207, 0, none⟩ (.int .u64 t202)).setCell ⟨gb207, 1, none⟩ (.int .u64 t203)).setCell ⟨gb207, 2, none⟩ (.int .u64 t204)).setCell ⟨gb207, 3, none⟩ (.int .u64 t205)).heap[gb199]? = some (.cells #[.int .u64 (rd l0 (ji16)), .slice Ao22 t193.length co22] 50 (0, 0))) := ⟨by (with_reducible repeat (first | refine blk_drewN ?_ _ | refine blk_drew ?_ | refine blk_alloc ?_ _)); refine blk_far ?_ NB199_207.out _; (with_reducible repeat (first | refine blk_drewN ?_ _ | refine blk_drew ?_ | refine blk_alloc ?_ _)); refine blk_far ?_ NB199_207.out _; (with_reducible repeat (first | refine blk_drewN ?_ _ | refine blk_drew ?_ | refine blk_alloc ?_ _)); refine blk_far ?_ NB199_207.out _; (with_reducible repeat (first | refine blk_drewN ?_ _ | refine blk_drew ?_ | refine blk_alloc ?_ _)); refine blk_far ?_ NB199_207.out _; (with_reducible repeat (first | refine blk_drewN ?_ _ | refine blk_drew ?_ | refine blk_alloc ?_ _)); exact BK199.out⟩
                have n5_ : Aside0 (((((w158.setCell ⟨gb207, 0, none⟩ (.int .u64 t202)).setCell ⟨gb207, 1, none⟩ (.int .u64 t203)).setCell ⟨gb207, 2, none⟩ (.int .u64 t204)).setCell ⟨gb207, 3, none⟩ (.int .u64 t205)).heap[gb207]? = some (.cells #[.int .u64 t202, .int .u64 t203, .int .u64 t204, .int .u64 t205] 60 (0, 0))) := ⟨by (with_reducible repeat (first | refine blk_drewN ?_ _ | refine blk_drew ?_ | refine blk_alloc ?_ _)); refine blk_put (cs := #[.int .u64 t202, .int .u64 t203, .int .u64 t204, .int .u64 0]) ?_ 3 _ rfl; (with_reducible repeat (first | refine blk_drewN ?_ _ | refine blk_drew ?_ | refine blk_alloc ?_ _)); refine blk_put (cs := #[.int .u64 t202, .int .u64 t203, .int .u64 0, .int .u64 0]) ?_ 2 _ rfl; (with_reducible repeat (first | refine blk_drewN ?_ _ | refine blk_drew ?_ | refine blk_alloc ?_ _)); refine blk_put (cs := #[.int .u64 t202, .int .u64 0, .int .u64 0, .int .u64 0]) ?_ 1 _ rfl; (with_reducible repeat (first | refine blk_drewN ?_ _ | refine blk_drew ?_ | refine blk_alloc ?_ _)); refine blk_put (cs := #[.int .u64 0, .int .u64 0, .int .u64 0, .int .u64 0]) ?_ 0 _ rfl; (with_reducible repeat (first | refine blk_drewN ?_ _ | refine blk_drew ?_ | refine blk_alloc ?_ _)); exact BK207.out⟩
                have n6_ : Aside0 (Below w.heap.size w ((((w158.setCell ⟨gb207, 0, none⟩ (.int .u64 t202)).setCell ⟨gb207, 1, none⟩ (.int .u64 t203)).setCell ⟨gb207, 2, none⟩ (.int .u64 t204)).setCell ⟨gb207, 3, none⟩ (.int .u64 t205))) := ⟨by repeat (first | (with_reducible first | exact HB.out | apply below_alloc | apply pw_below_drewN | apply below_drew1 | refine below_set ?_ GE190.out | refine below_set ?_ GE197.out | refine below_set ?_ GE199.out | refine below_set ?_ GE207.out) | exact HB.out)⟩
                (try clear HO_198000)
                (try clear HO_200001)
                (try clear BK190)
                (try clear BK197)
                (try clear BK199)
                (try clear BK207)
                (try clear HB)
                generalize ((((w158.setCell ⟨gb207, 0, none⟩ (.int .u64 t202)).setCell ⟨gb207, 1, none⟩ (.int .u64 t203)).setCell ⟨gb207, 2, none⟩ (.int .u64 t204)).setCell ⟨gb207, 3, none⟩ (.int .u64 t205)) = w163 at n0_ n1_ n2_ n3_ n4_ n5_ n6_ ⊢
                have HO_198000 := n0_
                have HO_200001 := n1_
                have BK190 := n2_
                have BK197 := n3_
                have BK199 := n4_
                have BK207 := n5_
                have HB := n6_
                clear n0_ n1_ n2_ n3_ n4_ n5_ n6_
                have n0_ := Aside0.mk (Kd.R_drew HO_198000.out)
                have n1_ := Aside0.mk (Kd.R_drew HO_200001.out)
                have n2_ := Aside0.mk (blk_drew BK190.out)
                have n3_ := Aside0.mk (blk_drew BK197.out)
                have n4_ := Aside0.mk (blk_drew BK199.out)
                have n5_ := Aside0.mk (blk_drew BK207.out)
                have n6_ := Aside0.mk (below_drew1 HB.out)
                clear HO_198000
                clear HO_200001
                clear BK190
                clear BK197
                clear BK199
                clear BK207
                clear HB
                have HO_198000 := n0_
                have HO_200001 := n1_
                have BK190 := n2_
                have BK197 := n3_
                have BK199 := n4_
                have BK207 := n5_
                have HB := n6_
                clear n0_ n1_ n2_ n3_ n4_ n5_ n6_
                refine start_ (n := 25) (S := fun w' => True) (ds := []) #[false, false, false, false, false, false, false, false, false, false, false, false, false, false, false, false, false, false, false, false, false, false, false, false, false] (by kernel_rfl) rfl rfl trivial (fun hHeld => ?_); refine with_tabW parolelaw04_MerkleBinds.tab14 parolelaw04_MerkleBinds.bits14 (fun HT_ HW_ => ?_)
                generalize w163.drew = w164 at HO_198000 HO_200001 BK190 BK197 BK199 BK207 HB hHeld ⊢
                refine pure_ (i := 0) (N := some 83) (v := ?_) (a' := ?_) (bl_15 25 1) rfl rfl (any_of HT_.out (by kernel_rfl)) (fun _ _ _ h => h) (Or.inl ⟨by rfl, ?_⟩) ?_ ?_; rotate_left; (· intro w'; go_simp; with_reducible rfl); rotate_left; (· simp only [Act.put, setIfInBounds_toArray, set_cons_zero, set_cons_succ, i64_w, i32_w]; rfl)
                refine pure_ (i := 1) (N := some 84) (v := ?_) (a' := ?_) (bl_15 25 3) rfl rfl (any_of HT_.out (by kernel_rfl)) (fun _ _ _ h => h) (Or.inl ⟨by rfl, ?_⟩) ?_ ?_; rotate_left; (· intro w'; go_simp; with_reducible rfl); rotate_left; (· simp only [Act.put, setIfInBounds_toArray, set_cons_zero, set_cons_succ, i64_w, i32_w]; rfl)
                refine pure_ (i := 2) (N := some 85) (v := undef) (a' := ?_) (bl_15 25 7) rfl rfl (any_of HT_.out (by kernel_rfl)) (fun _ _ _ h => h) (Or.inr ⟨by rfl, rfl⟩) ?_ ?_; rotate_left; (· simp only [Act.put, setIfInBounds_toArray, set_cons_zero, set_cons_succ, i64_w, i32_w]; rfl)
                refine pure_ (i := 3) (N := some 86) (v := undef) (a' := ?_) (bl_15 25 15) rfl rfl (any_of HT_.out (by kernel_rfl)) (fun _ _ _ h => h) (Or.inr ⟨by rfl, rfl⟩) ?_ ?_; rotate_left; (· simp only [Act.put, setIfInBounds_toArray, set_cons_zero, set_cons_succ, i64_w, i32_w]; rfl)
                refine pure_ (i := 4) (N := some 87) (v := undef) (a' := ?_) (bl_15 25 31) rfl rfl (any_of HT_.out (by kernel_rfl)) (fun _ _ _ h => h) (Or.inr ⟨by rfl, rfl⟩) ?_ ?_; rotate_left; (· simp only [Act.put, setIfInBounds_toArray, set_cons_zero, set_cons_succ, i64_w, i32_w]; rfl)
                refine pure_ (i := 5) (N := some 88) (v := undef) (a' := ?_) (bl_15 25 63) rfl rfl (any_of HT_.out (by kernel_rfl)) (fun _ _ _ h => h) (Or.inr ⟨by rfl, rfl⟩) ?_ ?_; rotate_left; (· simp only [Act.put, setIfInBounds_toArray, set_cons_zero, set_cons_succ, i64_w, i32_w]; rfl)
                refine pure_ (i := 6) (N := some 89) (v := undef) (a' := ?_) (bl_15 25 127) rfl rfl (any_of HT_.out (by kernel_rfl)) (fun _ _ _ h => h) (Or.inr ⟨by rfl, rfl⟩) ?_ ?_; rotate_left; (· simp only [Act.put, setIfInBounds_toArray, set_cons_zero, set_cons_succ, i64_w, i32_w]; rfl)
                refine pure_ (i := 7) (N := some 90) (v := undef) (a' := ?_) (bl_15 25 255) rfl rfl (any_of HT_.out (by kernel_rfl)) (fun _ _ _ h => h) (Or.inr ⟨by rfl, rfl⟩) ?_ ?_; rotate_left; (· simp only [Act.put, setIfInBounds_toArray, set_cons_zero, set_cons_succ, i64_w, i32_w]; rfl)
                refine pure_ (i := 8) (N := some 91) (v := undef) (a' := ?_) (bl_15 25 511) rfl rfl (any_of HT_.out (by kernel_rfl)) (fun _ _ _ h => h) (Or.inr ⟨by rfl, rfl⟩) ?_ ?_; rotate_left; (· simp only [Act.put, setIfInBounds_toArray, set_cons_zero, set_cons_succ, i64_w, i32_w]; rfl)
                refine pure_ (i := 9) (N := some 92) (v := undef) (a' := ?_) (bl_15 25 1023) rfl rfl (any_of HT_.out (by kernel_rfl)) (fun _ _ _ h => h) (Or.inr ⟨by rfl, rfl⟩) ?_ ?_; rotate_left; (· simp only [Act.put, setIfInBounds_toArray, set_cons_zero, set_cons_succ, i64_w, i32_w]; rfl)
                refine pure_ (i := 10) (N := some 93) (v := undef) (a' := ?_) (bl_15 25 2047) rfl rfl (any_of HT_.out (by kernel_rfl)) (fun _ _ _ h => h) (Or.inr ⟨by rfl, rfl⟩) ?_ ?_; rotate_left; (· simp only [Act.put, setIfInBounds_toArray, set_cons_zero, set_cons_succ, i64_w, i32_w]; rfl)
                refine pure_ (i := 11) (N := some 94) (v := undef) (a' := ?_) (bl_15 25 4095) rfl rfl (any_of HT_.out (by kernel_rfl)) (fun _ _ _ h => h) (Or.inr ⟨by rfl, rfl⟩) ?_ ?_; rotate_left; (· simp only [Act.put, setIfInBounds_toArray, set_cons_zero, set_cons_succ, i64_w, i32_w]; rfl)
                refine pure_ (i := 12) (N := some 95) (v := undef) (a' := ?_) (bl_15 25 8191) rfl rfl (any_of HT_.out (by kernel_rfl)) (fun _ _ _ h => h) (Or.inr ⟨by rfl, rfl⟩) ?_ ?_; rotate_left; (· simp only [Act.put, setIfInBounds_toArray, set_cons_zero, set_cons_succ, i64_w, i32_w]; rfl)
                refine pure_ (i := 13) (N := some 96) (v := undef) (a' := ?_) (bl_15 25 16383) rfl rfl (any_of HT_.out (by kernel_rfl)) (fun _ _ _ h => h) (Or.inr ⟨by rfl, rfl⟩) ?_ ?_; rotate_left; (· simp only [Act.put, setIfInBounds_toArray, set_cons_zero, set_cons_succ, i64_w, i32_w]; rfl)
                refine pure_ (i := 14) (N := some 97) (v := undef) (a' := ?_) (bl_15 25 32767) rfl rfl (any_of HT_.out (by kernel_rfl)) (fun _ _ _ h => h) (Or.inr ⟨by rfl, rfl⟩) ?_ ?_; rotate_left; (· simp only [Act.put, setIfInBounds_toArray, set_cons_zero, set_cons_succ, i64_w, i32_w]; rfl)
                refine pure_ (i := 15) (N := some 98) (v := undef) (a' := ?_) (bl_15 25 65535) rfl rfl (any_of HT_.out (by kernel_rfl)) (fun _ _ _ h => h) (Or.inr ⟨by rfl, rfl⟩) ?_ ?_; rotate_left; (· simp only [Act.put, setIfInBounds_toArray, set_cons_zero, set_cons_succ, i64_w, i32_w]; rfl)
                refine pure_ (i := 16) (N := some 99) (v := undef) (a' := ?_) (bl_15 25 131071) rfl rfl (any_of HT_.out (by kernel_rfl)) (fun _ _ _ h => h) (Or.inr ⟨by rfl, rfl⟩) ?_ ?_; rotate_left; (· simp only [Act.put, setIfInBounds_toArray, set_cons_zero, set_cons_succ, i64_w, i32_w]; rfl)
                refine pure_ (i := 17) (N := some 100) (v := undef) (a' := ?_) (bl_15 25 262143) rfl rfl (any_of HT_.out (by kernel_rfl)) (fun _ _ _ h => h) (Or.inr ⟨by rfl, rfl⟩) ?_ ?_; rotate_left; (· simp only [Act.put, setIfInBounds_toArray, set_cons_zero, set_cons_succ, i64_w, i32_w]; rfl)
                refine pure_ (i := 18) (N := some 101) (v := undef) (a' := ?_) (bl_15 25 524287) rfl rfl (any_of HT_.out (by kernel_rfl)) (fun _ _ _ h => h) (Or.inr ⟨by rfl, rfl⟩) ?_ ?_; rotate_left; (· simp only [Act.put, setIfInBounds_toArray, set_cons_zero, set_cons_succ, i64_w, i32_w]; rfl)
                refine pure_ (i := 19) (N := some 102) (v := undef) (a' := ?_) (bl_15 25 1048575) rfl rfl (any_of HT_.out (by kernel_rfl)) (fun _ _ _ h => h) (Or.inr ⟨by rfl, rfl⟩) ?_ ?_; rotate_left; (· simp only [Act.put, setIfInBounds_toArray, set_cons_zero, set_cons_succ, i64_w, i32_w]; rfl)
                refine pure_ (i := 20) (N := some 103) (v := undef) (a' := ?_) (bl_15 25 2097151) rfl rfl (any_of HT_.out (by kernel_rfl)) (fun _ _ _ h => h) (Or.inr ⟨by rfl, rfl⟩) ?_ ?_; rotate_left; (· simp only [Act.put, setIfInBounds_toArray, set_cons_zero, set_cons_succ, i64_w, i32_w]; rfl)
                refine pure_ (i := 21) (N := some 104) (v := undef) (a' := ?_) (bl_15 25 4194303) rfl rfl (any_of HT_.out (by kernel_rfl)) (fun _ _ _ h => h) (Or.inr ⟨by rfl, rfl⟩) ?_ ?_; rotate_left; (· simp only [Act.put, setIfInBounds_toArray, set_cons_zero, set_cons_succ, i64_w, i32_w]; rfl)
                refine pure_ (i := 22) (N := some 105) (v := undef) (a' := ?_) (bl_15 25 8388607) rfl rfl (any_of HT_.out (by kernel_rfl)) (fun _ _ _ h => h) (Or.inr ⟨by rfl, rfl⟩) ?_ ?_; rotate_left; (· simp only [Act.put, setIfInBounds_toArray, set_cons_zero, set_cons_succ, i64_w, i32_w]; rfl)
                refine pure_ (i := 23) (N := some 106) (v := undef) (a' := ?_) (bl_15 25 16777215) rfl rfl (any_of HT_.out (by kernel_rfl)) (fun _ _ _ h => h) (Or.inr ⟨by rfl, rfl⟩) ?_ ?_; rotate_left; (· simp only [Act.put, setIfInBounds_toArray, set_cons_zero, set_cons_succ, i64_w, i32_w]; rfl)
                refine pure_ (i := 24) (N := some 107) (v := ?_) (a' := ?_) (bl_15 25 33554431) rfl rfl (any_of HT_.out (by kernel_rfl)) (fun _ _ _ h => h) (Or.inl ⟨by rfl, ?_⟩) ?_ ?_; rotate_left; (· intro w'; go_simp; with_reducible rfl); rotate_left; (· simp only [Act.put, setIfInBounds_toArray, set_cons_zero, set_cons_succ, i64_w, i32_w]; rfl)
                refine done_ (done_of HT_.out (by kernel_rfl)) ?_
                have hcz165_0 : w164.cell? ⟨gb190, 0, none⟩ = some (.int .u64 a2_0) := (blk_cell BK190.out 0).trans rfl
                have hcz165_1 : w164.cell? ⟨gb190, 1, none⟩ = some (.slice A2_1 l2_1.length c2_1) := (blk_cell BK190.out 1).trans rfl
                have hfz165_0 := blk_frozen BK190.out 0
                have hfz165_1 := blk_frozen BK190.out 1
                try go_wp2_with (first | ((with_reducible refine gate_callee (f := 35) rfl ?_); refine goesL_ (some 113) rfl rfl Try.func35 (by kernel_rfl) rfl #[.int .u64 t192, .int .i64 (l0.length : Int), .int .i64 ji16, .agg #[.int .u64 a2_0, .slice A2_1 l2_1.length c2_1]] rfl (by (try simp only [map_toArray, map_cons, map_nil]); first | done | (simp only [hji16]; rfl) | rfl) ?_; (with_reducible refine (parolelaw04_check.calls t192 (l0.length : Int) ji16 a2_0 _ _ l2_1 t214 _ ?side1 ?side2 A133.out).mono ?_); (case side1 => repeat (first | exact (Kd.C_below HR2_1.out HB.out) | (with_reducible refine Kd.C_alloc ?_ _) | (with_reducible refine Kd.C_drewN ?_ _) | (with_reducible refine Kd.C_drew ?_))); (case side2 => exact HC2_1.out); rintro e w166 ⟨rfl, hb⟩; refine ⟨_, rfl, ?_⟩; have n0_ := Aside0.mk (Kd.R_below (by (with_reducible repeat (first | apply Kd.R_alloc | apply Kd.R_drewN | apply Kd.R_drew)); exact HO_198000.out) hb); have n1_ := Aside0.mk (Kd.R_below (by (with_reducible repeat (first | apply Kd.R_alloc | apply Kd.R_drewN | apply Kd.R_drew)); exact HO_200001.out) hb); have n2_ := Aside0.mk (blk_below (g := gb190) (o := .cells #[.int .u64 a2_0, .slice A2_1 l2_1.length c2_1] 50 (0, 0)) (by (with_reducible repeat (first | refine blk_drewN ?_ _ | refine blk_drew ?_ | refine blk_alloc ?_ _)); exact BK190.out) hb); have n3_ := Aside0.mk (blk_below (g := gb197) (o := .cells #[.slice Ao22 t193.length co22, .int .i64 t196] 46 (0, 0)) (by (with_reducible repeat (first | refine blk_drewN ?_ _ | refine blk_drew ?_ | refine blk_alloc ?_ _)); exact BK197.out) hb); have n4_ := Aside0.mk (blk_below (g := gb199) (o := .cells #[.int .u64 (rd l0 (ji16)), .slice Ao22 t193.length co22] 50 (0, 0)) (by (with_reducible repeat (first | refine blk_drewN ?_ _ | refine blk_drew ?_ | refine blk_alloc ?_ _)); exact BK199.out) hb); have n5_ := Aside0.mk (blk_below (g := gb207) (o := .cells #[.int .u64 t202, .int .u64 t203, .int .u64 t204, .int .u64 t205] 60 (0, 0)) (by (with_reducible repeat (first | refine blk_drewN ?_ _ | refine blk_drew ?_ | refine blk_alloc ?_ _)); exact BK207.out) hb); have n6_ := Aside0.mk (below_step (by repeat (first | (with_reducible first | exact HB.out | apply below_alloc | apply pw_below_drewN | apply below_drew1 | refine below_set ?_ GE190.out | refine below_set ?_ GE197.out | refine below_set ?_ GE199.out | refine below_set ?_ GE207.out) | exact HB.out)) hb); clear HO_198000; clear HO_200001; clear BK190; clear BK197; clear BK199; clear BK207; clear HB; have HO_198000 := n0_; have HO_200001 := n1_; have BK190 := n2_; have BK197 := n3_; have BK199 := n4_; have BK207 := n5_; have HB := n6_; clear n0_ n1_ n2_ n3_ n4_ n5_ n6_; (try clear hb); (try clear hb2); (try clear hk); (try clear hi)))
                go_ret
                exact ⟨by first | rfl | (simp [errW_none, errW_some] <;> rfl) | (simp only [← hji16]; first | rfl | (simp [errW_none, errW_some] <;> rfl)) | (simp [*, errW_none, errW_some] <;> rfl), by repeat (first | (with_reducible first | exact HB.out | apply below_alloc | apply pw_below_drewN | apply below_drew1 | refine below_set ?_ GE190.out | refine below_set ?_ GE197.out | refine below_set ?_ GE199.out | refine below_set ?_ GE207.out) | exact HB.out)⟩
               ·
                replace c151 := Bool.eq_false_iff.mpr c151
                subst c151
                have H1 : (some true) = some r := by rw [if_neg (show ¬ (false = true) by decide)] at H; exact H
                clear H
                have H := H1
                clear H1
                obtain rfl := Option.some.inj H
                have hnb167 := NB199_190.out
                have hnc167 := NB190_199.out
                have hnb168 := NB199_197.out
                have hnc168 := NB197_199.out
                have hcz169_0 : wc.cell? ⟨gb199, 0, none⟩ = some (.int .u64 (rd l0 (ji16))) := (blk_cell BK199.out 0).trans rfl
                have hcz169_1 : wc.cell? ⟨gb199, 1, none⟩ = some (.slice Ao22 t193.length co22) := (blk_cell BK199.out 1).trans rfl
                have hfz169_0 := blk_frozen BK199.out 0
                have hfz169_1 := blk_frozen BK199.out 1
                have hnb170 := NB190_197.out
                have hnc170 := NB197_190.out
                have hcz171_0 : wc.cell? ⟨gb190, 0, none⟩ = some (.int .u64 a2_0) := (blk_cell BK190.out 0).trans rfl
                have hcz171_1 : wc.cell? ⟨gb190, 1, none⟩ = some (.slice A2_1 l2_1.length c2_1) := (blk_cell BK190.out 1).trans rfl
                have hfz171_0 := blk_frozen BK190.out 0
                have hfz171_1 := blk_frozen BK190.out 1
                try go_wp2_with (first | ((with_reducible refine gate_callee (f := 40) rfl ?_); refine goesL_ (some 80) rfl rfl Try.func40 (by kernel_rfl) rfl #[.int .i64 (l0.length : Int), .int .i64 ji16, .agg #[.int .u64 (rd l0 (ji16)), .slice Ao22 t193.length co22], .agg #[.int .u64 a2_0, .slice A2_1 l2_1.length c2_1]] rfl (by (try simp only [map_toArray, map_cons, map_nil]); first | done | (simp only [hji16]; rfl) | rfl) ?_; (with_reducible refine (merkle_Collide.calls kj41 (l0.length : Int) ji16 (rd l0 (ji16)) _ _ t193 a2_0 _ _ l2_1 t202 t203 t204 t205 false _ ?side1 ?side2 ?side3 ?side4 A55.out).mono ?_); (case side1 => repeat (first | exact (Kd.R_reads' HO_200001.out).2.2 | (with_reducible refine Kd.C_alloc ?_ _) | (with_reducible refine Kd.C_drewN ?_ _) | (with_reducible refine Kd.C_drew ?_))); (case side2 => exact (Kd.R_reads' HO_200001.out).2.1); (case side3 => repeat (first | exact (Kd.C_below HR2_1.out HB.out) | (with_reducible refine Kd.C_alloc ?_ _) | (with_reducible refine Kd.C_drewN ?_ _) | (with_reducible refine Kd.C_drew ?_))); (case side4 => exact HC2_1.out); rintro e w172 ⟨rfl, hb⟩; refine ⟨_, rfl, ?_⟩; have n0_ := Aside0.mk (Kd.R_below (by (with_reducible repeat (first | apply Kd.R_alloc | apply Kd.R_drewN | apply Kd.R_drew)); exact HO_198000.out) hb); have n1_ := Aside0.mk (Kd.R_below (by (with_reducible repeat (first | apply Kd.R_alloc | apply Kd.R_drewN | apply Kd.R_drew)); exact HO_200001.out) hb); have n2_ := Aside0.mk (blk_below (g := gb190) (o := .cells #[.int .u64 a2_0, .slice A2_1 l2_1.length c2_1] 50 (0, 0)) (by (with_reducible repeat (first | refine blk_drewN ?_ _ | refine blk_drew ?_ | refine blk_alloc ?_ _)); exact BK190.out) hb); have n3_ := Aside0.mk (blk_below (g := gb197) (o := .cells #[.slice Ao22 t193.length co22, .int .i64 t196] 46 (0, 0)) (by (with_reducible repeat (first | refine blk_drewN ?_ _ | refine blk_drew ?_ | refine blk_alloc ?_ _)); exact BK197.out) hb); have n4_ := Aside0.mk (blk_below (g := gb199) (o := .cells #[.int .u64 (rd l0 (ji16)), .slice Ao22 t193.length co22] 50 (0, 0)) (by (with_reducible repeat (first | refine blk_drewN ?_ _ | refine blk_drew ?_ | refine blk_alloc ?_ _)); exact BK199.out) hb); have n5_ := Aside0.mk (below_step (by repeat (first | (with_reducible first | exact HB.out | apply below_alloc | apply pw_below_drewN | apply below_drew1 | refine below_set ?_ GE190.out | refine below_set ?_ GE197.out | refine below_set ?_ GE199.out) | exact HB.out)) hb); clear HO_198000; clear HO_200001; clear BK190; clear BK197; clear BK199; clear HB; have HO_198000 := n0_; have HO_200001 := n1_; have BK190 := n2_; have BK197 := n3_; have BK199 := n4_; have HB := n5_; clear n0_ n1_ n2_ n3_ n4_ n5_; (try clear hb); (try clear hb2); (try clear hk); (try clear hi)) | ((with_reducible refine gate_dst (N := 13) rfl ?_); (try (refine gate_guard (by rfl) ?_; dsimp only)); refine box_event ?hg (N := 13) ?hd (cs := #[.int .u64 0, .int .u64 0, .int .u64 0, .int .u64 0]) (t := 60) ?hr ?_; (case hd => rfl); (case hg => rfl); (case hr => first | (go_simp; done) | (go_simp; rfl)); intro gb207 hg w173 hbox hb; have n0_ := Aside0.mk (Kd.R_below (by (with_reducible repeat (first | apply Kd.R_alloc | apply Kd.R_drewN | apply Kd.R_drew)); exact HO_198000.out) hb); have n1_ := Aside0.mk (Kd.R_below (by (with_reducible repeat (first | apply Kd.R_alloc | apply Kd.R_drewN | apply Kd.R_drew)); exact HO_200001.out) hb); have n2_ := Aside0.mk (blk_below (g := gb190) (o := .cells #[.int .u64 a2_0, .slice A2_1 l2_1.length c2_1] 50 (0, 0)) (by (with_reducible repeat (first | refine blk_drewN ?_ _ | refine blk_drew ?_ | refine blk_alloc ?_ _)); exact BK190.out) hb); have n3_ := Aside0.mk (blk_below (g := gb197) (o := .cells #[.slice Ao22 t193.length co22, .int .i64 t196] 46 (0, 0)) (by (with_reducible repeat (first | refine blk_drewN ?_ _ | refine blk_drew ?_ | refine blk_alloc ?_ _)); exact BK197.out) hb); have n4_ := Aside0.mk (blk_below (g := gb199) (o := .cells #[.int .u64 (rd l0 (ji16)), .slice Ao22 t193.length co22] 50 (0, 0)) (by (with_reducible repeat (first | refine blk_drewN ?_ _ | refine blk_drew ?_ | refine blk_alloc ?_ _)); exact BK199.out) hb); have n5_ := Aside0.mk (below_step (by repeat (first | (with_reducible first | exact HB.out | apply below_alloc | apply pw_below_drewN | apply below_drew1 | refine below_set ?_ GE190.out | refine below_set ?_ GE197.out | refine below_set ?_ GE199.out) | exact HB.out)) hb); have n6_ := Aside0.mk (hbox); have n7_ := Aside0.mk ((by rw [hg]; exact (below_size (by repeat (first | (with_reducible first | exact HB.out | apply below_alloc | apply pw_below_drewN | apply below_drew1 | refine below_set ?_ GE190.out | refine below_set ?_ GE197.out | refine below_set ?_ GE199.out) | exact HB.out))) : w.heap.size ≤ gb207)); have n8_ := Aside0.mk ((by rw [hg]; exact (below_size (by repeat (first | (with_reducible first | exact HB.out | apply below_alloc | apply pw_below_drewN | apply below_drew1 | refine below_set ?_ GE190.out | refine below_set ?_ GE197.out | refine below_set ?_ GE199.out) | exact HB.out))) : w.heap.size ≤ gb207)); have n9_ := Aside0.mk ((by rw [hg]; exact Nat.ne_of_lt (blk_lt (g := gb190) (o := .cells #[.int .u64 a2_0, .slice A2_1 l2_1.length c2_1] 50 (0, 0)) (by (with_reducible repeat (first | refine blk_drewN ?_ _ | refine blk_drew ?_ | refine blk_alloc ?_ _)); exact BK190.out)) : gb190 ≠ gb207)); have n10_ := Aside0.mk ((by rw [hg]; exact Nat.ne_of_gt (blk_lt (g := gb190) (o := .cells #[.int .u64 a2_0, .slice A2_1 l2_1.length c2_1] 50 (0, 0)) (by (with_reducible repeat (first | refine blk_drewN ?_ _ | refine blk_drew ?_ | refine blk_alloc ?_ _)); exact BK190.out)) : gb207 ≠ gb190)); have n11_ := Aside0.mk ((by rw [hg]; exact Nat.ne_of_lt (blk_lt (g := gb197) (o := .cells #[.slice Ao22 t193.length co22, .int .i64 t196] 46 (0, 0)) (by (with_reducible repeat (first | refine blk_drewN ?_ _ | refine blk_drew ?_ | refine blk_alloc ?_ _)); exact BK197.out)) : gb197 ≠ gb207)); have n12_ := Aside0.mk ((by rw [hg]; exact Nat.ne_of_gt (blk_lt (g := gb197) (o := .cells #[.slice Ao22 t193.length co22, .int .i64 t196] 46 (0, 0)) (by (with_reducible repeat (first | refine blk_drewN ?_ _ | refine blk_drew ?_ | refine blk_alloc ?_ _)); exact BK197.out)) : gb207 ≠ gb197)); have n13_ := Aside0.mk ((by rw [hg]; exact Nat.ne_of_lt (blk_lt (g := gb199) (o := .cells #[.int .u64 (rd l0 (ji16)), .slice Ao22 t193.length co22] 50 (0, 0)) (by (with_reducible repeat (first | refine blk_drewN ?_ _ | refine blk_drew ?_ | refine blk_alloc ?_ _)); exact BK199.out)) : gb199 ≠ gb207)); have n14_ := Aside0.mk ((by rw [hg]; exact Nat.ne_of_gt (blk_lt (g := gb199) (o := .cells #[.int .u64 (rd l0 (ji16)), .slice Ao22 t193.length co22] 50 (0, 0)) (by (with_reducible repeat (first | refine blk_drewN ?_ _ | refine blk_drew ?_ | refine blk_alloc ?_ _)); exact BK199.out)) : gb207 ≠ gb199)); clear HO_198000; clear HO_200001; clear BK190; clear BK197; clear BK199; clear HB; have HO_198000 := n0_; have HO_200001 := n1_; have BK190 := n2_; have BK197 := n3_; have BK199 := n4_; have HB := n5_; have BK207 := n6_; have GW207 := n7_; have GE207 := n8_; have NB190_207 := n9_; have NB207_190 := n10_; have NB197_207 := n11_; have NB207_197 := n12_; have NB199_207 := n13_; have NB207_199 := n14_; clear n0_ n1_ n2_ n3_ n4_ n5_ n6_ n7_ n8_ n9_ n10_ n11_ n12_ n13_ n14_; clear hb hbox hg; have hnb174 := NB207_190.out; have hnc174 := NB190_207.out; have hnb175 := NB207_197.out; have hnc175 := NB197_207.out; have hnb176 := NB207_199.out; have hnc176 := NB199_207.out; have hcz177_0 : w173.cell? ⟨gb207, 0, none⟩ = some (.int .u64 0) := (blk_cell BK207.out 0).trans rfl; have hcz177_1 : w173.cell? ⟨gb207, 1, none⟩ = some (.int .u64 0) := (blk_cell BK207.out 1).trans rfl; have hcz177_2 : w173.cell? ⟨gb207, 2, none⟩ = some (.int .u64 0) := (blk_cell BK207.out 2).trans rfl; have hcz177_3 : w173.cell? ⟨gb207, 3, none⟩ = some (.int .u64 0) := (blk_cell BK207.out 3).trans rfl; have hfz177_0 := blk_frozen BK207.out 0; have hfz177_1 := blk_frozen BK207.out 1; have hfz177_2 := blk_frozen BK207.out 2; have hfz177_3 := blk_frozen BK207.out 3))
                have n0_ : Aside0 (Kd.R (Kd.int .u64) 22 ((((w173.setCell ⟨gb207, 0, none⟩ (.int .u64 t202)).setCell ⟨gb207, 1, none⟩ (.int .u64 t203)).setCell ⟨gb207, 2, none⟩ (.int .u64 t204)).setCell ⟨gb207, 3, none⟩ (.int .u64 t205)) w.heap.size (fun _ => True) (.slice Ao22 t193.length co22) t193) := ⟨by (with_reducible repeat (first | apply Kd.R_alloc | apply Kd.R_drewN | apply Kd.R_drew)); exact Kd.R_mono (Kd.R_far (p := ⟨gb207, 3, none⟩) (Kd.R_far (p := ⟨gb207, 2, none⟩) (Kd.R_far (p := ⟨gb207, 1, none⟩) (Kd.R_far (p := ⟨gb207, 0, none⟩) (Kd.R_types HO_198000.out BK207.out (by decide)) (fun _ hk => by first | exact hk.2 | exact hk | exact ⟨hk.2, hk.1⟩ | simp_all) (.int .u64 t202)) (fun _ hk => by first | exact hk.2 | exact hk | exact ⟨hk.2, hk.1⟩ | simp_all) (.int .u64 t203)) (fun _ hk => by first | exact hk.2 | exact hk | exact ⟨hk.2, hk.1⟩ | simp_all) (.int .u64 t204)) (fun _ hk => by first | exact hk.2 | exact hk | exact ⟨hk.2, hk.1⟩ | simp_all) (.int .u64 t205)) (fun _ hk => trivial)⟩
                have n1_ : Aside0 (Kd.R (Kd.int .u64) 22 ((((w173.setCell ⟨gb207, 0, none⟩ (.int .u64 t202)).setCell ⟨gb207, 1, none⟩ (.int .u64 t203)).setCell ⟨gb207, 2, none⟩ (.int .u64 t204)).setCell ⟨gb207, 3, none⟩ (.int .u64 t205)) w.heap.size (fun _ => True) (.slice Ao22 t193.length co22) t193) := ⟨by (with_reducible repeat (first | apply Kd.R_alloc | apply Kd.R_drewN | apply Kd.R_drew)); exact Kd.R_mono (Kd.R_far (p := ⟨gb207, 3, none⟩) (Kd.R_far (p := ⟨gb207, 2, none⟩) (Kd.R_far (p := ⟨gb207, 1, none⟩) (Kd.R_far (p := ⟨gb207, 0, none⟩) (Kd.R_types HO_200001.out BK207.out (by decide)) (fun _ hk => by first | exact hk.2 | exact hk | exact ⟨hk.2, hk.1⟩ | simp_all) (.int .u64 t202)) (fun _ hk => by first | exact hk.2 | exact hk | exact ⟨hk.2, hk.1⟩ | simp_all) (.int .u64 t203)) (fun _ hk => by first | exact hk.2 | exact hk | exact ⟨hk.2, hk.1⟩ | simp_all) (.int .u64 t204)) (fun _ hk => by first | exact hk.2 | exact hk | exact ⟨hk.2, hk.1⟩ | simp_all) (.int .u64 t205)) (fun _ hk => trivial)⟩
                have n2_ : Aside0 (((((w173.setCell ⟨gb207, 0, none⟩ (.int .u64 t202)).setCell ⟨gb207, 1, none⟩ (.int .u64 t203)).setCell ⟨gb207, 2, none⟩ (.int .u64 t204)).setCell ⟨gb207, 3, none⟩ (.int .u64 t205)).heap[gb190]? = some (.cells #[.int .u64 a2_0, .slice A2_1 l2_1.length c2_1] 50 (0, 0))) := ⟨by (with_reducible repeat (first | refine blk_drewN ?_ _ | refine blk_drew ?_ | refine blk_alloc ?_ _)); refine blk_far ?_ NB190_207.out _; (with_reducible repeat (first | refine blk_drewN ?_ _ | refine blk_drew ?_ | refine blk_alloc ?_ _)); refine blk_far ?_ NB190_207.out _; (with_reducible repeat (first | refine blk_drewN ?_ _ | refine blk_drew ?_ | refine blk_alloc ?_ _)); refine blk_far ?_ NB190_207.out _; (with_reducible repeat (first | refine blk_drewN ?_ _ | refine blk_drew ?_ | refine blk_alloc ?_ _)); refine blk_far ?_ NB190_207.out _; (with_reducible repeat (first | refine blk_drewN ?_ _ | refine blk_drew ?_ | refine blk_alloc ?_ _)); exact BK190.out⟩
                have n3_ : Aside0 (((((w173.setCell ⟨gb207, 0, none⟩ (.int .u64 t202)).setCell ⟨gb207, 1, none⟩ (.int .u64 t203)).setCell ⟨gb207, 2, none⟩ (.int .u64 t204)).setCell ⟨gb207, 3, none⟩ (.int .u64 t205)).heap[gb197]? = some (.cells #[.slice Ao22 t193.length co22, .int .i64 t196] 46 (0, 0))) := ⟨by (with_reducible repeat (first | refine blk_drewN ?_ _ | refine blk_drew ?_ | refine blk_alloc ?_ _)); refine blk_far ?_ NB197_207.out _; (with_reducible repeat (first | refine blk_drewN ?_ _ | refine blk_drew ?_ | refine blk_alloc ?_ _)); refine blk_far ?_ NB197_207.out _; (with_reducible repeat (first | refine blk_drewN ?_ _ | refine blk_drew ?_ | refine blk_alloc ?_ _)); refine blk_far ?_ NB197_207.out _; (with_reducible repeat (first | refine blk_drewN ?_ _ | refine blk_drew ?_ | refine blk_alloc ?_ _)); refine blk_far ?_ NB197_207.out _; (with_reducible repeat (first | refine blk_drewN ?_ _ | refine blk_drew ?_ | refine blk_alloc ?_ _)); exact BK197.out⟩
                have n4_ : Aside0 (((((w173.setCell ⟨gb207, 0, none⟩ (.int .u64 t202)).setCell ⟨gb207, 1, none⟩ (.int .u64 t203)).setCell ⟨gb207, 2, none⟩ (.int .u64 t204)).setCell ⟨gb207, 3, none⟩ (.int .u64 t205)).heap[gb199]? = some (.cells #[.int .u64 (rd l0 (ji16)), .slice Ao22 t193.length co22] 50 (0, 0))) := ⟨by (with_reducible repeat (first | refine blk_drewN ?_ _ | refine blk_drew ?_ | refine blk_alloc ?_ _)); refine blk_far ?_ NB199_207.out _; (with_reducible repeat (first | refine blk_drewN ?_ _ | refine blk_drew ?_ | refine blk_alloc ?_ _)); refine blk_far ?_ NB199_207.out _; (with_reducible repeat (first | refine blk_drewN ?_ _ | refine blk_drew ?_ | refine blk_alloc ?_ _)); refine blk_far ?_ NB199_207.out _; (with_reducible repeat (first | refine blk_drewN ?_ _ | refine blk_drew ?_ | refine blk_alloc ?_ _)); refine blk_far ?_ NB199_207.out _; (with_reducible repeat (first | refine blk_drewN ?_ _ | refine blk_drew ?_ | refine blk_alloc ?_ _)); exact BK199.out⟩
                have n5_ : Aside0 (((((w173.setCell ⟨gb207, 0, none⟩ (.int .u64 t202)).setCell ⟨gb207, 1, none⟩ (.int .u64 t203)).setCell ⟨gb207, 2, none⟩ (.int .u64 t204)).setCell ⟨gb207, 3, none⟩ (.int .u64 t205)).heap[gb207]? = some (.cells #[.int .u64 t202, .int .u64 t203, .int .u64 t204, .int .u64 t205] 60 (0, 0))) := ⟨by (with_reducible repeat (first | refine blk_drewN ?_ _ | refine blk_drew ?_ | refine blk_alloc ?_ _)); refine blk_put (cs := #[.int .u64 t202, .int .u64 t203, .int .u64 t204, .int .u64 0]) ?_ 3 _ rfl; (with_reducible repeat (first | refine blk_drewN ?_ _ | refine blk_drew ?_ | refine blk_alloc ?_ _)); refine blk_put (cs := #[.int .u64 t202, .int .u64 t203, .int .u64 0, .int .u64 0]) ?_ 2 _ rfl; (with_reducible repeat (first | refine blk_drewN ?_ _ | refine blk_drew ?_ | refine blk_alloc ?_ _)); refine blk_put (cs := #[.int .u64 t202, .int .u64 0, .int .u64 0, .int .u64 0]) ?_ 1 _ rfl; (with_reducible repeat (first | refine blk_drewN ?_ _ | refine blk_drew ?_ | refine blk_alloc ?_ _)); refine blk_put (cs := #[.int .u64 0, .int .u64 0, .int .u64 0, .int .u64 0]) ?_ 0 _ rfl; (with_reducible repeat (first | refine blk_drewN ?_ _ | refine blk_drew ?_ | refine blk_alloc ?_ _)); exact BK207.out⟩
                have n6_ : Aside0 (Below w.heap.size w ((((w173.setCell ⟨gb207, 0, none⟩ (.int .u64 t202)).setCell ⟨gb207, 1, none⟩ (.int .u64 t203)).setCell ⟨gb207, 2, none⟩ (.int .u64 t204)).setCell ⟨gb207, 3, none⟩ (.int .u64 t205))) := ⟨by repeat (first | (with_reducible first | exact HB.out | apply below_alloc | apply pw_below_drewN | apply below_drew1 | refine below_set ?_ GE190.out | refine below_set ?_ GE197.out | refine below_set ?_ GE199.out | refine below_set ?_ GE207.out) | exact HB.out)⟩
                (try clear HO_198000)
                (try clear HO_200001)
                (try clear BK190)
                (try clear BK197)
                (try clear BK199)
                (try clear BK207)
                (try clear HB)
                generalize ((((w173.setCell ⟨gb207, 0, none⟩ (.int .u64 t202)).setCell ⟨gb207, 1, none⟩ (.int .u64 t203)).setCell ⟨gb207, 2, none⟩ (.int .u64 t204)).setCell ⟨gb207, 3, none⟩ (.int .u64 t205)) = w178 at n0_ n1_ n2_ n3_ n4_ n5_ n6_ ⊢
                have HO_198000 := n0_
                have HO_200001 := n1_
                have BK190 := n2_
                have BK197 := n3_
                have BK199 := n4_
                have BK207 := n5_
                have HB := n6_
                clear n0_ n1_ n2_ n3_ n4_ n5_ n6_
                have n0_ := Aside0.mk (Kd.R_drew HO_198000.out)
                have n1_ := Aside0.mk (Kd.R_drew HO_200001.out)
                have n2_ := Aside0.mk (blk_drew BK190.out)
                have n3_ := Aside0.mk (blk_drew BK197.out)
                have n4_ := Aside0.mk (blk_drew BK199.out)
                have n5_ := Aside0.mk (blk_drew BK207.out)
                have n6_ := Aside0.mk (below_drew1 HB.out)
                clear HO_198000
                clear HO_200001
                clear BK190
                clear BK197
                clear BK199
                clear BK207
                clear HB
                have HO_198000 := n0_
                have HO_200001 := n1_
                have BK190 := n2_
                have BK197 := n3_
                have BK199 := n4_
                have BK207 := n5_
                have HB := n6_
                clear n0_ n1_ n2_ n3_ n4_ n5_ n6_
                refine start_ (n := 25) (S := fun w' => True) (ds := []) #[false, false, false, false, false, false, false, false, false, false, false, false, false, false, false, false, false, false, false, false, false, false, false, false, false] (by kernel_rfl) rfl rfl trivial (fun hHeld => ?_); refine with_tabW parolelaw04_MerkleBinds.tab14 parolelaw04_MerkleBinds.bits14 (fun HT_ HW_ => ?_)
                generalize w178.drew = w179 at HO_198000 HO_200001 BK190 BK197 BK199 BK207 HB hHeld ⊢
                refine pure_ (i := 0) (N := some 83) (v := ?_) (a' := ?_) (bl_15 25 1) rfl rfl (any_of HT_.out (by kernel_rfl)) (fun _ _ _ h => h) (Or.inl ⟨by rfl, ?_⟩) ?_ ?_; rotate_left; (· intro w'; go_simp; with_reducible rfl); rotate_left; (· simp only [Act.put, setIfInBounds_toArray, set_cons_zero, set_cons_succ, i64_w, i32_w]; rfl)
                refine pure_ (i := 1) (N := some 84) (v := ?_) (a' := ?_) (bl_15 25 3) rfl rfl (any_of HT_.out (by kernel_rfl)) (fun _ _ _ h => h) (Or.inl ⟨by rfl, ?_⟩) ?_ ?_; rotate_left; (· intro w'; go_simp; with_reducible rfl); rotate_left; (· simp only [Act.put, setIfInBounds_toArray, set_cons_zero, set_cons_succ, i64_w, i32_w]; rfl)
                refine pure_ (i := 2) (N := some 85) (v := undef) (a' := ?_) (bl_15 25 7) rfl rfl (any_of HT_.out (by kernel_rfl)) (fun _ _ _ h => h) (Or.inr ⟨by rfl, rfl⟩) ?_ ?_; rotate_left; (· simp only [Act.put, setIfInBounds_toArray, set_cons_zero, set_cons_succ, i64_w, i32_w]; rfl)
                refine pure_ (i := 3) (N := some 86) (v := undef) (a' := ?_) (bl_15 25 15) rfl rfl (any_of HT_.out (by kernel_rfl)) (fun _ _ _ h => h) (Or.inr ⟨by rfl, rfl⟩) ?_ ?_; rotate_left; (· simp only [Act.put, setIfInBounds_toArray, set_cons_zero, set_cons_succ, i64_w, i32_w]; rfl)
                refine pure_ (i := 4) (N := some 87) (v := undef) (a' := ?_) (bl_15 25 31) rfl rfl (any_of HT_.out (by kernel_rfl)) (fun _ _ _ h => h) (Or.inr ⟨by rfl, rfl⟩) ?_ ?_; rotate_left; (· simp only [Act.put, setIfInBounds_toArray, set_cons_zero, set_cons_succ, i64_w, i32_w]; rfl)
                refine pure_ (i := 5) (N := some 88) (v := undef) (a' := ?_) (bl_15 25 63) rfl rfl (any_of HT_.out (by kernel_rfl)) (fun _ _ _ h => h) (Or.inr ⟨by rfl, rfl⟩) ?_ ?_; rotate_left; (· simp only [Act.put, setIfInBounds_toArray, set_cons_zero, set_cons_succ, i64_w, i32_w]; rfl)
                refine pure_ (i := 6) (N := some 89) (v := undef) (a' := ?_) (bl_15 25 127) rfl rfl (any_of HT_.out (by kernel_rfl)) (fun _ _ _ h => h) (Or.inr ⟨by rfl, rfl⟩) ?_ ?_; rotate_left; (· simp only [Act.put, setIfInBounds_toArray, set_cons_zero, set_cons_succ, i64_w, i32_w]; rfl)
                refine pure_ (i := 7) (N := some 90) (v := undef) (a' := ?_) (bl_15 25 255) rfl rfl (any_of HT_.out (by kernel_rfl)) (fun _ _ _ h => h) (Or.inr ⟨by rfl, rfl⟩) ?_ ?_; rotate_left; (· simp only [Act.put, setIfInBounds_toArray, set_cons_zero, set_cons_succ, i64_w, i32_w]; rfl)
                refine pure_ (i := 8) (N := some 91) (v := undef) (a' := ?_) (bl_15 25 511) rfl rfl (any_of HT_.out (by kernel_rfl)) (fun _ _ _ h => h) (Or.inr ⟨by rfl, rfl⟩) ?_ ?_; rotate_left; (· simp only [Act.put, setIfInBounds_toArray, set_cons_zero, set_cons_succ, i64_w, i32_w]; rfl)
                refine pure_ (i := 9) (N := some 92) (v := undef) (a' := ?_) (bl_15 25 1023) rfl rfl (any_of HT_.out (by kernel_rfl)) (fun _ _ _ h => h) (Or.inr ⟨by rfl, rfl⟩) ?_ ?_; rotate_left; (· simp only [Act.put, setIfInBounds_toArray, set_cons_zero, set_cons_succ, i64_w, i32_w]; rfl)
                refine pure_ (i := 10) (N := some 93) (v := undef) (a' := ?_) (bl_15 25 2047) rfl rfl (any_of HT_.out (by kernel_rfl)) (fun _ _ _ h => h) (Or.inr ⟨by rfl, rfl⟩) ?_ ?_; rotate_left; (· simp only [Act.put, setIfInBounds_toArray, set_cons_zero, set_cons_succ, i64_w, i32_w]; rfl)
                refine pure_ (i := 11) (N := some 94) (v := undef) (a' := ?_) (bl_15 25 4095) rfl rfl (any_of HT_.out (by kernel_rfl)) (fun _ _ _ h => h) (Or.inr ⟨by rfl, rfl⟩) ?_ ?_; rotate_left; (· simp only [Act.put, setIfInBounds_toArray, set_cons_zero, set_cons_succ, i64_w, i32_w]; rfl)
                refine pure_ (i := 12) (N := some 95) (v := undef) (a' := ?_) (bl_15 25 8191) rfl rfl (any_of HT_.out (by kernel_rfl)) (fun _ _ _ h => h) (Or.inr ⟨by rfl, rfl⟩) ?_ ?_; rotate_left; (· simp only [Act.put, setIfInBounds_toArray, set_cons_zero, set_cons_succ, i64_w, i32_w]; rfl)
                refine pure_ (i := 13) (N := some 96) (v := undef) (a' := ?_) (bl_15 25 16383) rfl rfl (any_of HT_.out (by kernel_rfl)) (fun _ _ _ h => h) (Or.inr ⟨by rfl, rfl⟩) ?_ ?_; rotate_left; (· simp only [Act.put, setIfInBounds_toArray, set_cons_zero, set_cons_succ, i64_w, i32_w]; rfl)
                refine pure_ (i := 14) (N := some 97) (v := undef) (a' := ?_) (bl_15 25 32767) rfl rfl (any_of HT_.out (by kernel_rfl)) (fun _ _ _ h => h) (Or.inr ⟨by rfl, rfl⟩) ?_ ?_; rotate_left; (· simp only [Act.put, setIfInBounds_toArray, set_cons_zero, set_cons_succ, i64_w, i32_w]; rfl)
                refine pure_ (i := 15) (N := some 98) (v := undef) (a' := ?_) (bl_15 25 65535) rfl rfl (any_of HT_.out (by kernel_rfl)) (fun _ _ _ h => h) (Or.inr ⟨by rfl, rfl⟩) ?_ ?_; rotate_left; (· simp only [Act.put, setIfInBounds_toArray, set_cons_zero, set_cons_succ, i64_w, i32_w]; rfl)
                refine pure_ (i := 16) (N := some 99) (v := undef) (a' := ?_) (bl_15 25 131071) rfl rfl (any_of HT_.out (by kernel_rfl)) (fun _ _ _ h => h) (Or.inr ⟨by rfl, rfl⟩) ?_ ?_; rotate_left; (· simp only [Act.put, setIfInBounds_toArray, set_cons_zero, set_cons_succ, i64_w, i32_w]; rfl)
                refine pure_ (i := 17) (N := some 100) (v := undef) (a' := ?_) (bl_15 25 262143) rfl rfl (any_of HT_.out (by kernel_rfl)) (fun _ _ _ h => h) (Or.inr ⟨by rfl, rfl⟩) ?_ ?_; rotate_left; (· simp only [Act.put, setIfInBounds_toArray, set_cons_zero, set_cons_succ, i64_w, i32_w]; rfl)
                refine pure_ (i := 18) (N := some 101) (v := undef) (a' := ?_) (bl_15 25 524287) rfl rfl (any_of HT_.out (by kernel_rfl)) (fun _ _ _ h => h) (Or.inr ⟨by rfl, rfl⟩) ?_ ?_; rotate_left; (· simp only [Act.put, setIfInBounds_toArray, set_cons_zero, set_cons_succ, i64_w, i32_w]; rfl)
                refine pure_ (i := 19) (N := some 102) (v := undef) (a' := ?_) (bl_15 25 1048575) rfl rfl (any_of HT_.out (by kernel_rfl)) (fun _ _ _ h => h) (Or.inr ⟨by rfl, rfl⟩) ?_ ?_; rotate_left; (· simp only [Act.put, setIfInBounds_toArray, set_cons_zero, set_cons_succ, i64_w, i32_w]; rfl)
                refine pure_ (i := 20) (N := some 103) (v := undef) (a' := ?_) (bl_15 25 2097151) rfl rfl (any_of HT_.out (by kernel_rfl)) (fun _ _ _ h => h) (Or.inr ⟨by rfl, rfl⟩) ?_ ?_; rotate_left; (· simp only [Act.put, setIfInBounds_toArray, set_cons_zero, set_cons_succ, i64_w, i32_w]; rfl)
                refine pure_ (i := 21) (N := some 104) (v := undef) (a' := ?_) (bl_15 25 4194303) rfl rfl (any_of HT_.out (by kernel_rfl)) (fun _ _ _ h => h) (Or.inr ⟨by rfl, rfl⟩) ?_ ?_; rotate_left; (· simp only [Act.put, setIfInBounds_toArray, set_cons_zero, set_cons_succ, i64_w, i32_w]; rfl)
                refine pure_ (i := 22) (N := some 105) (v := undef) (a' := ?_) (bl_15 25 8388607) rfl rfl (any_of HT_.out (by kernel_rfl)) (fun _ _ _ h => h) (Or.inr ⟨by rfl, rfl⟩) ?_ ?_; rotate_left; (· simp only [Act.put, setIfInBounds_toArray, set_cons_zero, set_cons_succ, i64_w, i32_w]; rfl)
                refine pure_ (i := 23) (N := some 106) (v := undef) (a' := ?_) (bl_15 25 16777215) rfl rfl (any_of HT_.out (by kernel_rfl)) (fun _ _ _ h => h) (Or.inr ⟨by rfl, rfl⟩) ?_ ?_; rotate_left; (· simp only [Act.put, setIfInBounds_toArray, set_cons_zero, set_cons_succ, i64_w, i32_w]; rfl)
                refine pure_ (i := 24) (N := some 107) (v := ?_) (a' := ?_) (bl_15 25 33554431) rfl rfl (any_of HT_.out (by kernel_rfl)) (fun _ _ _ h => h) (Or.inl ⟨by rfl, ?_⟩) ?_ ?_; rotate_left; (· intro w'; go_simp; with_reducible rfl); rotate_left; (· simp only [Act.put, setIfInBounds_toArray, set_cons_zero, set_cons_succ, i64_w, i32_w]; rfl)
                refine done_ (done_of HT_.out (by kernel_rfl)) ?_
                have hcz180_0 : w179.cell? ⟨gb190, 0, none⟩ = some (.int .u64 a2_0) := (blk_cell BK190.out 0).trans rfl
                have hcz180_1 : w179.cell? ⟨gb190, 1, none⟩ = some (.slice A2_1 l2_1.length c2_1) := (blk_cell BK190.out 1).trans rfl
                have hfz180_0 := blk_frozen BK190.out 0
                have hfz180_1 := blk_frozen BK190.out 1
                try go_wp2_with (first | ((with_reducible refine gate_callee (f := 35) rfl ?_); refine goesL_ (some 113) rfl rfl Try.func35 (by kernel_rfl) rfl #[.int .u64 t192, .int .i64 (l0.length : Int), .int .i64 ji16, .agg #[.int .u64 a2_0, .slice A2_1 l2_1.length c2_1]] rfl (by (try simp only [map_toArray, map_cons, map_nil]); first | done | (simp only [hji16]; rfl) | rfl) ?_; (with_reducible refine (parolelaw04_check.calls t192 (l0.length : Int) ji16 a2_0 _ _ l2_1 t214 _ ?side1 ?side2 A133.out).mono ?_); (case side1 => repeat (first | exact (Kd.C_below HR2_1.out HB.out) | (with_reducible refine Kd.C_alloc ?_ _) | (with_reducible refine Kd.C_drewN ?_ _) | (with_reducible refine Kd.C_drew ?_))); (case side2 => exact HC2_1.out); rintro e w181 ⟨rfl, hb⟩; refine ⟨_, rfl, ?_⟩; have n0_ := Aside0.mk (Kd.R_below (by (with_reducible repeat (first | apply Kd.R_alloc | apply Kd.R_drewN | apply Kd.R_drew)); exact HO_198000.out) hb); have n1_ := Aside0.mk (Kd.R_below (by (with_reducible repeat (first | apply Kd.R_alloc | apply Kd.R_drewN | apply Kd.R_drew)); exact HO_200001.out) hb); have n2_ := Aside0.mk (blk_below (g := gb190) (o := .cells #[.int .u64 a2_0, .slice A2_1 l2_1.length c2_1] 50 (0, 0)) (by (with_reducible repeat (first | refine blk_drewN ?_ _ | refine blk_drew ?_ | refine blk_alloc ?_ _)); exact BK190.out) hb); have n3_ := Aside0.mk (blk_below (g := gb197) (o := .cells #[.slice Ao22 t193.length co22, .int .i64 t196] 46 (0, 0)) (by (with_reducible repeat (first | refine blk_drewN ?_ _ | refine blk_drew ?_ | refine blk_alloc ?_ _)); exact BK197.out) hb); have n4_ := Aside0.mk (blk_below (g := gb199) (o := .cells #[.int .u64 (rd l0 (ji16)), .slice Ao22 t193.length co22] 50 (0, 0)) (by (with_reducible repeat (first | refine blk_drewN ?_ _ | refine blk_drew ?_ | refine blk_alloc ?_ _)); exact BK199.out) hb); have n5_ := Aside0.mk (blk_below (g := gb207) (o := .cells #[.int .u64 t202, .int .u64 t203, .int .u64 t204, .int .u64 t205] 60 (0, 0)) (by (with_reducible repeat (first | refine blk_drewN ?_ _ | refine blk_drew ?_ | refine blk_alloc ?_ _)); exact BK207.out) hb); have n6_ := Aside0.mk (below_step (by repeat (first | (with_reducible first | exact HB.out | apply below_alloc | apply pw_below_drewN | apply below_drew1 | refine below_set ?_ GE190.out | refine below_set ?_ GE197.out | refine below_set ?_ GE199.out | refine below_set ?_ GE207.out) | exact HB.out)) hb); clear HO_198000; clear HO_200001; clear BK190; clear BK197; clear BK199; clear BK207; clear HB; have HO_198000 := n0_; have HO_200001 := n1_; have BK190 := n2_; have BK197 := n3_; have BK199 := n4_; have BK207 := n5_; have HB := n6_; clear n0_ n1_ n2_ n3_ n4_ n5_ n6_; (try clear hb); (try clear hb2); (try clear hk); (try clear hi)))
                go_ret
                exact ⟨by first | rfl | (simp [errW_none, errW_some] <;> rfl) | (simp only [← hji16]; first | rfl | (simp [errW_none, errW_some] <;> rfl)) | (simp [*, errW_none, errW_some] <;> rfl), by repeat (first | (with_reducible first | exact HB.out | apply below_alloc | apply pw_below_drewN | apply below_drew1 | refine below_set ?_ GE190.out | refine below_set ?_ GE197.out | refine below_set ?_ GE199.out | refine below_set ?_ GE207.out) | exact HB.out)⟩
       ·
        rw [if_neg c18] at H
        exact absurd H (by simp)
      ·
       rw [if_neg c17] at H
       exact absurd H (by simp)
 ·
  replace c5 := Bool.eq_false_iff.mpr c5
  subst c5
  have H1 : (none) = some r := by rw [if_neg (show ¬ (false = true) by decide)] at H; exact H
  clear H
  have H := H1
  clear H1
  exact absurd H (by simp)

end Go.Proofs.Ytikicibbbeofnaa.MB
