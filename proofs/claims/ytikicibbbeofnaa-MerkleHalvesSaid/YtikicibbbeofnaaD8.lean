-- Written by wip/hprint.py (this session's) with the kit's printer and contracts of our own. Not trusted: Lean checks it.
import Derived.Test.YtikicibbbeofnaaD0
import Derived.Test.YtikicibbbeofnaaD1
import Derived.Test.YtikicibbbeofnaaD2
namespace Go.Proofs.Ytikicibbbeofnaa.D
open Go.RowKit Go.Proofs.YtikicibbbeofnaaW.PrintWords Go.Proofs.YtikicibbbeofnaaW.PrintLast Go.Proofs.YtikicibbbeofnaaW.PrintMore
attribute [local go_sem] max2_int min2_int max_two min_two max_three min_three max_four min_four   -- for this text's walks alone
set_option linter.unusedVariables false
set_option linter.unusedSimpArgs false

attribute [local go_sem high] eqA30
/-! ### parolelaw03_DigestTexts: function 4 -/
def parolelaw03_DigestTexts.j0 : Nat → Bool → ByteArray → Bool → Int → Int → Option (Bool)
  | 0, _, _, _, _, _ => none
  | k + 1, x7, x8, x36, x237000, x237001 => if x36 = true then (none) else (if 0 ≤ (wrap64 (Int.tmod x237000 16)) then (if (wrap64 (Int.tmod x237000 16)) ≤ (x8.size : Int) then ((some (([x237001] : List Int) : List Int)).bind fun y242 => (if (x8.extract 0 ((wrap64 (Int.tmod x237000 16)) : Int).toNat).size + (strOfNums y242).size ≤ 9223372036854775807 then (if 0 ≤ (wrap64 ((wrap64 (Int.tmod x237000 16)) + 1)) then (if (wrap64 ((wrap64 (Int.tmod x237000 16)) + 1)) ≤ (x8.size : Int) then (if ((x8.extract 0 ((wrap64 (Int.tmod x237000 16)) : Int).toNat) ++ (strOfNums y242)).size + (x8.extract ((wrap64 ((wrap64 (Int.tmod x237000 16)) + 1)) : Int).toNat x8.size).size ≤ 9223372036854775807 then ((parolelaw03_parsed.f k (((x8.extract 0 ((wrap64 (Int.tmod x237000 16)) : Int).toNat) ++ (strOfNums y242)) ++ (x8.extract ((wrap64 ((wrap64 (Int.tmod x237000 16)) + 1)) : Int).toNat x8.size))).bind fun bt245 => (if bt245.2 = 0 then ((digest_Text.f bt245.1).bind fun t248 => (if t248.toList = (((x8.extract 0 ((wrap64 (Int.tmod x237000 16)) : Int).toNat) ++ (strOfNums y242)) ++ (x8.extract ((wrap64 ((wrap64 (Int.tmod x237000 16)) + 1)) : Int).toNat x8.size)).toList then (if x8.size + 1 ≤ 9223372036854775807 then ((parolelaw03_parsed.f k (x8 ++ (⟨#[48]⟩ : ByteArray))).bind fun bt249 => (if bt249.2 = 3 then (some x7) else (none))) else (none)) else (none))) else (if (bt245.1 == 0 && (bt245.2 == 3)) = true then ((parolelaw03_parsed.f k (x8.extract 0 ((wrap64 (Int.tmod x237000 16)) : Int).toNat)).bind fun bt251 => (if bt251.2 = 3 then (some x7) else (none))) else (none)))) else (none)) else (none)) else (none)) else (none))) else (none)) else (none))
def parolelaw03_DigestTexts.f (k : Nat) (a0 : Int) (a1 : Int) (a2_0 : Int) (a2_1 : Int) : Option (Bool) := (parolelaw03_examples.f k).bind fun t237 => (if t237 = true then ((digest_Text.f a0).bind fun t238 => (if (t238.size : Int) = 16 then ((parolelaw03_parsed.f k t238).bind fun bt239 => (if (!(bt239.1 == a0) || (!(bt239.2 == 0))) = true then (parolelaw03_DigestTexts.j0 k t237 t238 true a2_0 a2_1) else ((digest_Text.f a1).bind fun t241 => (parolelaw03_DigestTexts.j0 k t237 t238 ((t241.toList == t238.toList) != (a0 == a1)) a2_0 a2_1)))) else (parolelaw03_DigestTexts.j0 k t237 t238 true a2_0 a2_1))) else (none))
theorem parolelaw03_DigestTexts.mono_l : ∀ k, (∀ y0 y1 y2 y3 y4, LeO (parolelaw03_DigestTexts.j0 k y0 y1 y2 y3 y4) (parolelaw03_DigestTexts.j0 (k + 1) y0 y1 y2 y3 y4))
  | 0 => fun _ _ _ _ _ r h => by simp [parolelaw03_DigestTexts.j0] at h
  | k + 1 => by
    have ih0 := parolelaw03_DigestTexts.mono_l k
    · intro y0 y1 y2 y3 y4
      unfold parolelaw03_DigestTexts.j0
      repeat' first
      | (with_reducible exact ih0 _ _ _ _ _)
      | (with_reducible exact parolelaw03_examples.mono _)
      | (with_reducible exact parolelaw03_parsed.mono _ _)
      | (with_reducible exact LeO.refl _)
      | (with_reducible exact LeO.none _)
      | (with_reducible refine LeO.ite ?_ ?_)
      | (with_reducible refine LeO.bind ?_ (fun _ => ?_))
      | exact ih0 _ _ _ _ _
      | exact parolelaw03_examples.mono _
      | exact parolelaw03_parsed.mono _ _
      | exact LeO.none _
      | refine LeO.ite ?_ ?_
      | refine LeO.bind ?_ (fun _ => ?_)
theorem parolelaw03_DigestTexts.mono : ∀ a0 a1 a2 a3 k, LeO (parolelaw03_DigestTexts.f k a0 a1 a2 a3) (parolelaw03_DigestTexts.f (k + 1) a0 a1 a2 a3) := by
  intro a0 a1 a2 a3 k
  have ih0 := parolelaw03_DigestTexts.mono_l k
  unfold parolelaw03_DigestTexts.f
  repeat' first
      | (with_reducible exact ih0 _ _ _ _ _)
      | (with_reducible exact parolelaw03_examples.mono _)
      | (with_reducible exact parolelaw03_parsed.mono _ _)
      | (with_reducible exact LeO.refl _)
      | (with_reducible exact LeO.none _)
      | (with_reducible refine LeO.ite ?_ ?_)
      | (with_reducible refine LeO.bind ?_ (fun _ => ?_))
      | exact ih0 _ _ _ _ _
      | exact parolelaw03_examples.mono _
      | exact parolelaw03_parsed.mono _ _
      | exact LeO.none _
      | refine LeO.ite ?_ ?_
      | refine LeO.bind ?_ (fun _ => ?_)
def parolelaw03_DigestTexts.T8 : Bool × List (List Nat × List Nat) := (true, [([], []), ([], []), ([0, 1], [0, 1]), ([], []), ([3], [3]), ([4], [4]), ([5], [5]), ([2, 6], [2, 6]), ([], []), ([], []), ([9], [9]), ([8, 10], [8, 10]), ([7, 11], [7, 11]), ([12, 0, 1, 2, 3, 4, 5, 6, 7, 8, 9, 10, 11, 12], [12])])
def parolelaw03_DigestTexts.B8 : List Nat := [0, 0, 3, 0, 8, 24, 56, 127, 0, 0, 512, 1792, 4095, 8191]
theorem parolelaw03_DigestTexts.tab8 : rtab .any (opsOf Try.f4 8) = parolelaw03_DigestTexts.T8 := by kernel_rfl
theorem parolelaw03_DigestTexts.bits8 : waitsOk parolelaw03_DigestTexts.T8.2 parolelaw03_DigestTexts.B8 = true := by kernel_rfl
set_option maxHeartbeats 8000000 in
set_option maxRecDepth 100000 in
theorem parolelaw03_DigestTexts.calls (k : Nat) (a0 : Int) (a1 : Int) (a2_0 : Int) (a2_1 : Int) (r : Bool) (w : World) (h : parolelaw03_DigestTexts.f k a0 a1 a2_0 a2_1 = some r) :
    Calls Try.prog 4 #[.int .u64 a0, .int .u64 a1, .agg #[.int .u8 a2_0, .int .u8 a2_1]] w fun e w' => e = .returned (.bool r) ∧ Below w.heap.size w w' := by
  have hu26 := Try.underlying26
  have hu30 := Try.underlying30
  have HB := Aside0.mk (Below.refl w.heap.size w)
  have H : ((parolelaw03_examples.f k).bind fun t237 => (if t237 = true then ((digest_Text.f a0).bind fun t238 => (if (t238.size : Int) = 16 then ((parolelaw03_parsed.f k t238).bind fun bt239 => (if (!(bt239.1 == a0) || (!(bt239.2 == 0))) = true then (parolelaw03_DigestTexts.j0 k t237 t238 true a2_0 a2_1) else ((digest_Text.f a1).bind fun t241 => (parolelaw03_DigestTexts.j0 k t237 t238 ((t241.toList == t238.toList) != (a0 == a1)) a2_0 a2_1)))) else (parolelaw03_DigestTexts.j0 k t237 t238 true a2_0 a2_1))) else (none))) = some r := h
  clear h
  replace H := Option.bind_eq_some_iff.mp H
  obtain ⟨t237, A40, H⟩ := H
  replace H : (if t237 = true then ((digest_Text.f a0).bind fun t238 => (if (t238.size : Int) = 16 then ((parolelaw03_parsed.f k t238).bind fun bt239 => (if (!(bt239.1 == a0) || (!(bt239.2 == 0))) = true then (parolelaw03_DigestTexts.j0 k t237 t238 true a2_0 a2_1) else ((digest_Text.f a1).bind fun t241 => (parolelaw03_DigestTexts.j0 k t237 t238 ((t241.toList == t238.toList) != (a0 == a1)) a2_0 a2_1)))) else (parolelaw03_DigestTexts.j0 k t237 t238 true a2_0 a2_1))) else (none)) = some r := H
  have A4 := Aside0.mk A40
  clear A40
  by_cases c5 : t237 = true
  · subst c5
    have H1 : ((digest_Text.f a0).bind fun t238 => (if (t238.size : Int) = 16 then ((parolelaw03_parsed.f k t238).bind fun bt239 => (if (!(bt239.1 == a0) || (!(bt239.2 == 0))) = true then (parolelaw03_DigestTexts.j0 k true t238 true a2_0 a2_1) else ((digest_Text.f a1).bind fun t241 => (parolelaw03_DigestTexts.j0 k true t238 ((t241.toList == t238.toList) != (a0 == a1)) a2_0 a2_1)))) else (parolelaw03_DigestTexts.j0 k true t238 true a2_0 a2_1))) = some r := by rw [if_pos rfl] at H; exact H
    clear H
    have H := H1
    clear H1
    replace H := Option.bind_eq_some_iff.mp H
    obtain ⟨t238, A60, H⟩ := H
    replace H : (if (t238.size : Int) = 16 then ((parolelaw03_parsed.f k t238).bind fun bt239 => (if (!(bt239.1 == a0) || (!(bt239.2 == 0))) = true then (parolelaw03_DigestTexts.j0 k true t238 true a2_0 a2_1) else ((digest_Text.f a1).bind fun t241 => (parolelaw03_DigestTexts.j0 k true t238 ((t241.toList == t238.toList) != (a0 == a1)) a2_0 a2_1)))) else (parolelaw03_DigestTexts.j0 k true t238 true a2_0 a2_1)) = some r := H
    have A6 := Aside0.mk A60
    clear A60
    have HC7 := Aside0.mk H
    clear H
    go_enter Try.func4, Try.ntmps4
    go_upto_region 5 with (first | ((with_reducible refine gate_dst (N := 5) rfl ?_); refine box_event ?hg (N := 5) ?hd (cs := #[.int .u8 a2_0, .int .u8 a2_1]) (t := 26) ?hr ?_; (case hd => rfl); (case hg => rfl); (case hr => first | (go_simp; done) | (go_simp; rfl)); intro gb236 hg w8 hbox hb; have n0_ := Aside0.mk (below_step (by repeat (first | (with_reducible first | exact HB.out | apply below_alloc | apply pw_below_drewN | apply below_drew1) | exact HB.out)) hb); have n1_ := Aside0.mk (hbox); have n2_ := Aside0.mk ((by rw [hg]; exact (below_size (by repeat (first | (with_reducible first | exact HB.out | apply below_alloc | apply pw_below_drewN | apply below_drew1) | exact HB.out))) : w.heap.size ≤ gb236)); have n3_ := Aside0.mk ((by rw [hg]; exact (below_size (by repeat (first | (with_reducible first | exact HB.out | apply below_alloc | apply pw_below_drewN | apply below_drew1) | exact HB.out))) : w.heap.size ≤ gb236)); clear HB; have HB := n0_; have BK236 := n1_; have GW236 := n2_; have GE236 := n3_; clear n0_ n1_ n2_ n3_; clear hb hbox hg) | ((with_reducible refine gate_callee (f := 16) rfl ?_); refine goesL_ (some 12) rfl rfl Try.func16 (by kernel_rfl) rfl #[] rfl (by (try simp only [List.map_toArray, List.map_cons, List.map_nil]); first | done | rfl | (simp only [List.length_drop, List.length_take]; rfl)) ?_; (with_reducible refine (parolelaw03_examples.calls k  true _ A4.out).mono ?_); rintro e w9 ⟨rfl, hb⟩; refine ⟨_, rfl, ?_⟩; have n0_ := Aside0.mk (blk_below (g := gb236) (o := .cells #[.int .u8 a2_0, .int .u8 a2_1] 26 (0, 0)) (by (with_reducible repeat (first | refine blk_drewN ?_ _ | refine blk_drew ?_ | refine blk_alloc ?_ _)); exact BK236.out) hb); have n1_ := Aside0.mk (below_step (by repeat (first | (with_reducible first | exact HB.out | apply below_alloc | apply pw_below_drewN | apply below_drew1 | refine below_set ?_ GE236.out) | exact HB.out)) hb); clear BK236; clear HB; have BK236 := n0_; have HB := n1_; clear n0_ n1_; (try clear hb); (try clear hb2); (try clear hk); (try clear hi)) | ((with_reducible refine gate_callee (f := 19) rfl ?_); refine goesL_ (some 16) rfl rfl Try.func19 (by kernel_rfl) rfl #[.int .u64 a0] rfl (by (try simp only [List.map_toArray, List.map_cons, List.map_nil]); first | done | rfl | (simp only [List.length_drop, List.length_take]; rfl)) ?_; (with_reducible refine (digest_Text.calls a0 t238 _ A6.out).mono ?_); rintro e w10 ⟨rfl, hb⟩; refine ⟨_, rfl, ?_⟩; have n0_ := Aside0.mk (blk_below (g := gb236) (o := .cells #[.int .u8 a2_0, .int .u8 a2_1] 26 (0, 0)) (by (with_reducible repeat (first | refine blk_drewN ?_ _ | refine blk_drew ?_ | refine blk_alloc ?_ _)); exact BK236.out) hb); have n1_ := Aside0.mk (below_step (by repeat (first | (with_reducible first | exact HB.out | apply below_alloc | apply pw_below_drewN | apply below_drew1 | refine below_set ?_ GE236.out) | exact HB.out)) hb); clear BK236; clear HB; have BK236 := n0_; have HB := n1_; clear n0_ n1_; (try clear hb); (try clear hb2); (try clear hk); (try clear hi)))
    (try simp only [Act.put, List.setIfInBounds_toArray, List.set_cons_zero, List.set_cons_succ])
    go_cut [36] (fun v36 wc => ∃ (kq : Nat) (x36_6 : Bool), v36 = .bool x36_6 ∧ Aside0 (parolelaw03_DigestTexts.j0 kq true t238 x36_6 a2_0 a2_1 = some r) ∧ Aside0 (kq ≤ k) ∧ Aside0 (wc.heap[gb236]? = some (.cells #[.int .u8 a2_0, .int .u8 a2_1] 26 (0, 0))) ∧ Aside0 (Below w.heap.size w wc))
    case first =>
      have H := HC7.out
      clear HC7
      by_cases c11 : (t238.size : Int) = 16
      · rw [if_pos c11] at H
        have c11b0 : ((t238.size : Int) == 16) = true := beq_iff_eq.mpr c11
        have c11b1 : ((t238.size : Int) != 16) = false := bne_eq_false_iff_eq.mpr c11
        clear c11
        (first | rw [c11b0] | (simp only [i64_w, i32_w]; rw [c11b0]) | skip)
        replace H := Option.bind_eq_some_iff.mp H
        obtain ⟨⟨t239, t240⟩, A120, H⟩ := H
        replace H : (if (!(t239 == a0) || (!(t240 == 0))) = true then (parolelaw03_DigestTexts.j0 k true t238 true a2_0 a2_1) else ((digest_Text.f a1).bind fun t241 => (parolelaw03_DigestTexts.j0 k true t238 ((t241.toList == t238.toList) != (a0 == a1)) a2_0 a2_1))) = some r := H
        have A12 := Aside0.mk A120
        clear A120
        by_cases c13 : (!(t239 == a0) || (!(t240 == 0))) = true
        · rw [if_pos c13] at H
          have c13b0 : (!(t239 == a0) || (!(t240 == 0))) = true := c13
          clear c13
          have H' := Aside0.mk H
          clear H
          go_wp2_with (first | (go_at_call 20; (with_reducible refine (parolelaw03_parsed.calls k t238 t239 t240 _ A12.out).mono ?_); rintro e w14 ⟨rfl, hb⟩; have n0_ := Aside0.mk (blk_below (g := gb236) (o := .cells #[.int .u8 a2_0, .int .u8 a2_1] 26 (0, 0)) (by (with_reducible repeat (first | refine blk_drewN ?_ _ | refine blk_drew ?_ | refine blk_alloc ?_ _)); exact BK236.out) hb); have n1_ := Aside0.mk (below_step (by repeat (first | (with_reducible first | exact HB.out | apply below_alloc | apply pw_below_drewN | apply below_drew1 | refine below_set ?_ GE236.out) | exact HB.out)) hb); clear BK236; clear HB; have BK236 := n0_; have HB := n1_; clear n0_ n1_; (try clear hb); (try clear hb2); (try clear hk); (try clear hi)))
          go_meet
          case rel => exact ⟨_, (true), (by first | rfl | (simp; done) | (simp [*]; done)), H', ⟨by first | omega | exact Nat.le_refl _⟩, ⟨by (with_reducible repeat (first | refine blk_drewN ?_ _ | refine blk_drew ?_ | refine blk_alloc ?_ _)); exact BK236.out⟩, ⟨by repeat (first | (with_reducible first | exact HB.out | apply below_alloc | apply pw_below_drewN | apply below_drew1 | refine below_set ?_ GE236.out) | exact HB.out)⟩⟩
        · rw [if_neg c13] at H
          have c13b0 : (!(t239 == a0) || (!(t240 == 0))) = false := by simpa using c13
          clear c13
          replace H := Option.bind_eq_some_iff.mp H
          obtain ⟨t241, A150, H⟩ := H
          replace H : (parolelaw03_DigestTexts.j0 k true t238 ((t241.toList == t238.toList) != (a0 == a1)) a2_0 a2_1) = some r := H
          have A15 := Aside0.mk A150
          clear A150
          have H' := Aside0.mk H
          clear H
          go_wp2_with (first | (go_at_call 20; (with_reducible refine (parolelaw03_parsed.calls k t238 t239 t240 _ A12.out).mono ?_); rintro e w16 ⟨rfl, hb⟩; have n0_ := Aside0.mk (blk_below (g := gb236) (o := .cells #[.int .u8 a2_0, .int .u8 a2_1] 26 (0, 0)) (by (with_reducible repeat (first | refine blk_drewN ?_ _ | refine blk_drew ?_ | refine blk_alloc ?_ _)); exact BK236.out) hb); have n1_ := Aside0.mk (below_step (by repeat (first | (with_reducible first | exact HB.out | apply below_alloc | apply pw_below_drewN | apply below_drew1 | refine below_set ?_ GE236.out) | exact HB.out)) hb); clear BK236; clear HB; have BK236 := n0_; have HB := n1_; clear n0_ n1_; (try clear hb); (try clear hb2); (try clear hk); (try clear hi)) | (go_at_call 19; (with_reducible refine (digest_Text.calls a1 t241 _ A15.out).mono ?_); rintro e w17 ⟨rfl, hb⟩; have n0_ := Aside0.mk (blk_below (g := gb236) (o := .cells #[.int .u8 a2_0, .int .u8 a2_1] 26 (0, 0)) (by (with_reducible repeat (first | refine blk_drewN ?_ _ | refine blk_drew ?_ | refine blk_alloc ?_ _)); exact BK236.out) hb); have n1_ := Aside0.mk (below_step (by repeat (first | (with_reducible first | exact HB.out | apply below_alloc | apply pw_below_drewN | apply below_drew1 | refine below_set ?_ GE236.out) | exact HB.out)) hb); clear BK236; clear HB; have BK236 := n0_; have HB := n1_; clear n0_ n1_; (try clear hb); (try clear hb2); (try clear hk); (try clear hi)))
          go_meet
          case rel => exact ⟨_, (((t241.toList == t238.toList) != (a0 == a1))), (by first | rfl | (simp; done) | (simp [*]; done)), H', ⟨by first | omega | exact Nat.le_refl _⟩, ⟨by (with_reducible repeat (first | refine blk_drewN ?_ _ | refine blk_drew ?_ | refine blk_alloc ?_ _)); exact BK236.out⟩, ⟨by repeat (first | (with_reducible first | exact HB.out | apply below_alloc | apply pw_below_drewN | apply below_drew1 | refine below_set ?_ GE236.out) | exact HB.out)⟩⟩
      · rw [if_neg c11] at H
        have c11b0 : ((t238.size : Int) == 16) = false := beq_eq_false_iff_ne.mpr c11
        have c11b1 : ((t238.size : Int) != 16) = true := bne_iff_ne.mpr c11
        (first | rw [c11b0] | (simp only [i64_w, i32_w]; rw [c11b0]) | skip)
        have H' := Aside0.mk H
        clear H
        go_wp2
        go_meet
        case rel => exact ⟨_, (true), (by first | rfl | (simp; done) | (simp [*]; done)), H', ⟨by first | omega | exact Nat.le_refl _⟩, ⟨by (with_reducible repeat (first | refine blk_drewN ?_ _ | refine blk_drew ?_ | refine blk_alloc ?_ _)); exact BK236.out⟩, ⟨by repeat (first | (with_reducible first | exact HB.out | apply below_alloc | apply pw_below_drewN | apply below_drew1 | refine below_set ?_ GE236.out) | exact HB.out)⟩⟩
    case rest =>
      clear HC7
      try clear c1
      try clear p2
      try clear c4
      try clear c5
      try clear c11
      try clear c11b0
      try clear c11b1
      try clear c13
      try clear c13b0
      try clear c16
      obtain ⟨kq, x36_6, rfl, HA, HJ6, BK236, HB⟩ := hcut
      cases kq with
      | zero => exact absurd HA.out (by simp [parolelaw03_DigestTexts.j0])
      | succ kj6 =>
        have H := HA.out
        clear HA
        simp only [parolelaw03_DigestTexts.j0] at H
        by_cases c18 : x36_6 = true
        · subst c18
          have H1 : (none) = some r := by rw [if_pos rfl] at H; exact H
          clear H
          have H := H1
          clear H1
          exact absurd H (by simp)
        · replace c18 := Bool.eq_false_iff.mpr c18
          subst c18
          have H1 : (if 0 ≤ (wrap64 (Int.tmod a2_0 16)) then (if (wrap64 (Int.tmod a2_0 16)) ≤ (t238.size : Int) then ((some (([a2_1] : List Int) : List Int)).bind fun y242 => (if (t238.extract 0 ((wrap64 (Int.tmod a2_0 16)) : Int).toNat).size + (strOfNums y242).size ≤ 9223372036854775807 then (if 0 ≤ (wrap64 ((wrap64 (Int.tmod a2_0 16)) + 1)) then (if (wrap64 ((wrap64 (Int.tmod a2_0 16)) + 1)) ≤ (t238.size : Int) then (if ((t238.extract 0 ((wrap64 (Int.tmod a2_0 16)) : Int).toNat) ++ (strOfNums y242)).size + (t238.extract ((wrap64 ((wrap64 (Int.tmod a2_0 16)) + 1)) : Int).toNat t238.size).size ≤ 9223372036854775807 then ((parolelaw03_parsed.f kj6 (((t238.extract 0 ((wrap64 (Int.tmod a2_0 16)) : Int).toNat) ++ (strOfNums y242)) ++ (t238.extract ((wrap64 ((wrap64 (Int.tmod a2_0 16)) + 1)) : Int).toNat t238.size))).bind fun bt245 => (if bt245.2 = 0 then ((digest_Text.f bt245.1).bind fun t248 => (if t248.toList = (((t238.extract 0 ((wrap64 (Int.tmod a2_0 16)) : Int).toNat) ++ (strOfNums y242)) ++ (t238.extract ((wrap64 ((wrap64 (Int.tmod a2_0 16)) + 1)) : Int).toNat t238.size)).toList then (if t238.size + 1 ≤ 9223372036854775807 then ((parolelaw03_parsed.f kj6 (t238 ++ (⟨#[48]⟩ : ByteArray))).bind fun bt249 => (if bt249.2 = 3 then (some true) else (none))) else (none)) else (none))) else (if (bt245.1 == 0 && (bt245.2 == 3)) = true then ((parolelaw03_parsed.f kj6 (t238.extract 0 ((wrap64 (Int.tmod a2_0 16)) : Int).toNat)).bind fun bt251 => (if bt251.2 = 3 then (some true) else (none))) else (none)))) else (none)) else (none)) else (none)) else (none))) else (none)) else (none)) = some r := by rw [if_neg (show ¬ (false = true) by decide)] at H; exact H
          clear H
          have H := H1
          clear H1
          obtain ⟨ji19, hji19⟩ : ∃ j_ : Int, (wrap64 (Int.tmod a2_0 16)) = j_ := ⟨_, rfl⟩
          replace H : (if 0 ≤ (ji19) then (if (ji19) ≤ (t238.size : Int) then ((some (([a2_1] : List Int) : List Int)).bind fun y242 => (if (t238.extract 0 ((ji19) : Int).toNat).size + (strOfNums y242).size ≤ 9223372036854775807 then (if 0 ≤ (wrap64 ((ji19) + 1)) then (if (wrap64 ((ji19) + 1)) ≤ (t238.size : Int) then (if ((t238.extract 0 ((ji19) : Int).toNat) ++ (strOfNums y242)).size + (t238.extract ((wrap64 ((ji19) + 1)) : Int).toNat t238.size).size ≤ 9223372036854775807 then ((parolelaw03_parsed.f kj6 (((t238.extract 0 ((ji19) : Int).toNat) ++ (strOfNums y242)) ++ (t238.extract ((wrap64 ((ji19) + 1)) : Int).toNat t238.size))).bind fun bt245 => (if bt245.2 = 0 then ((digest_Text.f bt245.1).bind fun t248 => (if t248.toList = (((t238.extract 0 ((ji19) : Int).toNat) ++ (strOfNums y242)) ++ (t238.extract ((wrap64 ((ji19) + 1)) : Int).toNat t238.size)).toList then (if t238.size + 1 ≤ 9223372036854775807 then ((parolelaw03_parsed.f kj6 (t238 ++ (⟨#[48]⟩ : ByteArray))).bind fun bt249 => (if bt249.2 = 3 then (some true) else (none))) else (none)) else (none))) else (if (bt245.1 == 0 && (bt245.2 == 3)) = true then ((parolelaw03_parsed.f kj6 (t238.extract 0 ((ji19) : Int).toNat)).bind fun bt251 => (if bt251.2 = 3 then (some true) else (none))) else (none)))) else (none)) else (none)) else (none)) else (none))) else (none)) else (none)) = some r := by first | (rw [hji19] at H; exact H) | (simp only [hji19] at H ⊢; exact H)
          have hji19w : (IntKind.i64.wrap (Int.tmod a2_0 16)) = ji19 := (i64_w _).trans hji19
          by_cases c20 : 0 ≤ (ji19)
          · rw [if_pos c20] at H
            have c20b0 := eq_true c20
            have c20b1 : decide (0 ≤ (ji19)) = true := decide_eq_true c20
            clear c20
            by_cases c21 : (ji19) ≤ (t238.size : Int)
            · rw [if_pos c21] at H
              have c21b0 := eq_true c21
              have c21b1 : decide ((ji19) ≤ (t238.size : Int)) = true := decide_eq_true c21
              clear c21
              obtain ⟨y242, hy242⟩ : ∃ y_ : List Int, y_ = (([a2_1] : List Int)) := ⟨_, rfl⟩
              replace H : (if (t238.extract 0 ((ji19) : Int).toNat).size + (strOfNums y242).size ≤ 9223372036854775807 then (if 0 ≤ (wrap64 ((ji19) + 1)) then (if (wrap64 ((ji19) + 1)) ≤ (t238.size : Int) then (if ((t238.extract 0 ((ji19) : Int).toNat) ++ (strOfNums y242)).size + (t238.extract ((wrap64 ((ji19) + 1)) : Int).toNat t238.size).size ≤ 9223372036854775807 then ((parolelaw03_parsed.f kj6 (((t238.extract 0 ((ji19) : Int).toNat) ++ (strOfNums y242)) ++ (t238.extract ((wrap64 ((ji19) + 1)) : Int).toNat t238.size))).bind fun bt245 => (if bt245.2 = 0 then ((digest_Text.f bt245.1).bind fun t248 => (if t248.toList = (((t238.extract 0 ((ji19) : Int).toNat) ++ (strOfNums y242)) ++ (t238.extract ((wrap64 ((ji19) + 1)) : Int).toNat t238.size)).toList then (if t238.size + 1 ≤ 9223372036854775807 then ((parolelaw03_parsed.f kj6 (t238 ++ (⟨#[48]⟩ : ByteArray))).bind fun bt249 => (if bt249.2 = 3 then (some true) else (none))) else (none)) else (none))) else (if (bt245.1 == 0 && (bt245.2 == 3)) = true then ((parolelaw03_parsed.f kj6 (t238.extract 0 ((ji19) : Int).toNat)).bind fun bt251 => (if bt251.2 = 3 then (some true) else (none))) else (none)))) else (none)) else (none)) else (none)) else (none)) = some r := by first | (rw [hy242]; with_reducible exact H) | (have H2_ := (Option.bind_some _ _).symm.trans H; rw [hy242]; with_reducible exact H2_) | (have H2_ := (Option.bind_some _ _).symm.trans H; with_reducible exact H2_) | with_reducible exact H | (rw [hy242]; exact H) | exact H
              have Ny242 := Aside0.mk hy242
              clear hy242
              by_cases c22 : (t238.extract 0 ((ji19) : Int).toNat).size + (strOfNums y242).size ≤ 9223372036854775807
              · rw [if_pos c22] at H
                have c22b0 := eq_true c22
                have c22b1 : decide ((t238.extract 0 ((ji19) : Int).toNat).size + (strOfNums y242).size ≤ 9223372036854775807) = true := decide_eq_true c22
                try have c22b2 : (9223372036854775807 < (t238.extract 0 ((ji19) : Int).toNat).size + (strOfNums y242).size) = False := eq_false (Nat.not_lt.2 c22)
                obtain ⟨ji23, hji23⟩ : ∃ j_ : Int, (wrap64 ((ji19) + 1)) = j_ := ⟨_, rfl⟩
                replace H : (if 0 ≤ (ji23) then (if (ji23) ≤ (t238.size : Int) then (if ((t238.extract 0 ((ji19) : Int).toNat) ++ (strOfNums y242)).size + (t238.extract ((ji23) : Int).toNat t238.size).size ≤ 9223372036854775807 then ((parolelaw03_parsed.f kj6 (((t238.extract 0 ((ji19) : Int).toNat) ++ (strOfNums y242)) ++ (t238.extract ((ji23) : Int).toNat t238.size))).bind fun bt245 => (if bt245.2 = 0 then ((digest_Text.f bt245.1).bind fun t248 => (if t248.toList = (((t238.extract 0 ((ji19) : Int).toNat) ++ (strOfNums y242)) ++ (t238.extract ((ji23) : Int).toNat t238.size)).toList then (if t238.size + 1 ≤ 9223372036854775807 then ((parolelaw03_parsed.f kj6 (t238 ++ (⟨#[48]⟩ : ByteArray))).bind fun bt249 => (if bt249.2 = 3 then (some true) else (none))) else (none)) else (none))) else (if (bt245.1 == 0 && (bt245.2 == 3)) = true then ((parolelaw03_parsed.f kj6 (t238.extract 0 ((ji19) : Int).toNat)).bind fun bt251 => (if bt251.2 = 3 then (some true) else (none))) else (none)))) else (none)) else (none)) else (none)) = some r := by first | (rw [hji23] at H; exact H) | (simp only [hji23] at H ⊢; exact H)
                have hji23w : (IntKind.i64.wrap ((ji19) + 1)) = ji23 := (i64_w _).trans hji23
                by_cases c24 : 0 ≤ (ji23)
                · rw [if_pos c24] at H
                  have c24b0 := eq_true c24
                  have c24b1 : decide (0 ≤ (ji23)) = true := decide_eq_true c24
                  clear c24
                  by_cases c25 : (ji23) ≤ (t238.size : Int)
                  · rw [if_pos c25] at H
                    have c25b0 := eq_true c25
                    have c25b1 : decide ((ji23) ≤ (t238.size : Int)) = true := decide_eq_true c25
                    clear c25
                    by_cases c26 : ((t238.extract 0 ((ji19) : Int).toNat) ++ (strOfNums y242)).size + (t238.extract ((ji23) : Int).toNat t238.size).size ≤ 9223372036854775807
                    · rw [if_pos c26] at H
                      have c26b0 := eq_true c26
                      have c26b1 : decide (((t238.extract 0 ((ji19) : Int).toNat) ++ (strOfNums y242)).size + (t238.extract ((ji23) : Int).toNat t238.size).size ≤ 9223372036854775807) = true := decide_eq_true c26
                      try have c26b2 : (9223372036854775807 < ((t238.extract 0 ((ji19) : Int).toNat) ++ (strOfNums y242)).size + (t238.extract ((ji23) : Int).toNat t238.size).size) = False := eq_false (Nat.not_lt.2 c26)
                      replace H := Option.bind_eq_some_iff.mp H
                      obtain ⟨⟨t245, t246⟩, A270, H⟩ := H
                      replace H : (if t246 = 0 then ((digest_Text.f t245).bind fun t248 => (if t248.toList = (((t238.extract 0 ((ji19) : Int).toNat) ++ (strOfNums y242)) ++ (t238.extract ((ji23) : Int).toNat t238.size)).toList then (if t238.size + 1 ≤ 9223372036854775807 then ((parolelaw03_parsed.f kj6 (t238 ++ (⟨#[48]⟩ : ByteArray))).bind fun bt249 => (if bt249.2 = 3 then (some true) else (none))) else (none)) else (none))) else (if (t245 == 0 && (t246 == 3)) = true then ((parolelaw03_parsed.f kj6 (t238.extract 0 ((ji19) : Int).toNat)).bind fun bt251 => (if bt251.2 = 3 then (some true) else (none))) else (none))) = some r := H
                      have A27 := Aside0.mk A270
                      clear A270
                      by_cases c28 : t246 = 0
                      · rw [if_pos c28] at H
                        have c28b0 : (t246 == 0) = true := beq_iff_eq.mpr c28
                        have c28b1 : (t246 != 0) = false := bne_eq_false_iff_eq.mpr c28
                        clear c28
                        replace H := Option.bind_eq_some_iff.mp H
                        obtain ⟨t248, A290, H⟩ := H
                        replace H : (if t248.toList = (((t238.extract 0 ((ji19) : Int).toNat) ++ (strOfNums y242)) ++ (t238.extract ((ji23) : Int).toNat t238.size)).toList then (if t238.size + 1 ≤ 9223372036854775807 then ((parolelaw03_parsed.f kj6 (t238 ++ (⟨#[48]⟩ : ByteArray))).bind fun bt249 => (if bt249.2 = 3 then (some true) else (none))) else (none)) else (none)) = some r := H
                        have A29 := Aside0.mk A290
                        clear A290
                        by_cases c30 : t248.toList = (((t238.extract 0 ((ji19) : Int).toNat) ++ (strOfNums y242)) ++ (t238.extract ((ji23) : Int).toNat t238.size)).toList
                        · rw [if_pos c30] at H
                          have c30b0 : (t248.toList == (((t238.extract 0 ((ji19) : Int).toNat) ++ (strOfNums y242)) ++ (t238.extract ((ji23) : Int).toNat t238.size)).toList) = true := beq_iff_eq.mpr c30
                          have c30b1 : (t248.toList != (((t238.extract 0 ((ji19) : Int).toNat) ++ (strOfNums y242)) ++ (t238.extract ((ji23) : Int).toNat t238.size)).toList) = false := bne_eq_false_iff_eq.mpr c30
                          clear c30
                          by_cases c31 : t238.size + 1 ≤ 9223372036854775807
                          · rw [if_pos c31] at H
                            have c31b0 := eq_true c31
                            have c31b1 : decide (t238.size + 1 ≤ 9223372036854775807) = true := decide_eq_true c31
                            try have c31b2 : (9223372036854775807 < t238.size + 1) = False := eq_false (Nat.not_lt.2 c31)
                            replace H := Option.bind_eq_some_iff.mp H
                            obtain ⟨⟨t249, t250⟩, A320, H⟩ := H
                            replace H : (if t250 = 3 then (some true) else (none)) = some r := H
                            have A32 := Aside0.mk A320
                            clear A320
                            by_cases c33 : t250 = 3
                            · rw [if_pos c33] at H
                              have c33b0 : (t250 == 3) = true := beq_iff_eq.mpr c33
                              have c33b1 : (t250 != 3) = false := bne_eq_false_iff_eq.mpr c33
                              clear c33
                              obtain rfl := Option.some.inj H
                              have hcz34_0 : wc.cell? ⟨gb236, 0, none⟩ = some (.int .u8 a2_0) := (blk_cell BK236.out 0).trans rfl
                              have hcz34_1 : wc.cell? ⟨gb236, 1, none⟩ = some (.int .u8 a2_1) := (blk_cell BK236.out 1).trans rfl
                              have hfz34_0 := blk_frozen BK236.out 0
                              have hfz34_1 := blk_frozen BK236.out 1
                              try go_wp2
                              have n0_ := Aside0.mk (blk_drew BK236.out)
                              have n1_ := Aside0.mk (below_drew1 HB.out)
                              clear BK236
                              clear HB
                              have BK236 := n0_
                              have HB := n1_
                              clear n0_ n1_
                              refine start_ (n := 14) (S := fun w' => w'.cell? ⟨gb236, 0, none⟩ = some (.int .u8 a2_0) ∧ w'.cell? ⟨gb236, 1, none⟩ = some (.int .u8 a2_1)) (ds := []) #[false, false, false, false, false, false, false, false, false, false, false, false, false, false] (by kernel_rfl) rfl rfl ⟨(blk_cell BK236.out 0).trans rfl, (blk_cell BK236.out 1).trans rfl⟩ (fun hHeld => ?_); refine with_tabW parolelaw03_DigestTexts.tab8 parolelaw03_DigestTexts.bits8 (fun HT_ HW_ => ?_)
                              generalize wc.drew = w35 at BK236 HB hHeld ⊢
                              refine pure_ (i := 0) (N := some 41) (v := ?_) (a' := ?_) #[true, false, false, false, false, false, false, false, false, false, false, false, false, false] rfl rfl (any_of HT_.out (by kernel_rfl)) (fun _ _ _ h => h) (Or.inl ⟨by rfl, ?_⟩) ?_ ?_
                              rotate_left
                              · intro w'
                                go_simp
                                first | with_reducible rfl | (rw [if_neg (cat_le (by assumption) (by assumption))]) | (rw [if_neg (cat_le2 (by assumption) (by assumption))])
                              rotate_left
                              · simp only [Act.put, List.setIfInBounds_toArray, List.set_cons_zero, List.set_cons_succ, i64_w, i32_w]
                                rfl
                              refine pure_ (i := 1) (N := some 42) (v := ?_) (a' := ?_) #[true, true, false, false, false, false, false, false, false, false, false, false, false, false] rfl rfl (any_of HT_.out (by kernel_rfl)) (fun _ _ _ h => h) (Or.inl ⟨by rfl, ?_⟩) ?_ ?_
                              rotate_left
                              · intro w'
                                go_simp
                                first | with_reducible rfl | (rw [if_neg (cat_le (by assumption) (by assumption))]) | (rw [if_neg (cat_le2 (by assumption) (by assumption))])
                              rotate_left
                              · simp only [Act.put, List.setIfInBounds_toArray, List.set_cons_zero, List.set_cons_succ, i64_w, i32_w]
                                rfl
                              refine pure_ (i := 2) (N := some 43) (v := ?_) (a' := ?_) #[true, true, true, false, false, false, false, false, false, false, false, false, false, false] rfl rfl (any_of HT_.out (by kernel_rfl)) (fun _ _ _ h => h) (Or.inl ⟨by rfl, ?_⟩) ?_ ?_
                              rotate_left
                              · intro w'
                                go_simp
                                first | with_reducible rfl | (rw [if_neg (cat_le (by assumption) (by assumption))]) | (rw [if_neg (cat_le2 (by assumption) (by assumption))])
                              rotate_left
                              · simp only [Act.put, List.setIfInBounds_toArray, List.set_cons_zero, List.set_cons_succ, i64_w, i32_w]
                                rfl
                              refine pure_ (i := 3) (N := some 44) (v := ?_) (a' := ?_) #[true, true, true, true, false, false, false, false, false, false, false, false, false, false] rfl rfl (any_of HT_.out (by kernel_rfl)) (fun _ _ _ h => h) (Or.inl ⟨by rfl, ?_⟩) ?_ ?_
                              rotate_left
                              · intro w'
                                go_simp
                                first | with_reducible rfl | (rw [if_neg (cat_le (by assumption) (by assumption))]) | (rw [if_neg (cat_le2 (by assumption) (by assumption))])
                              rotate_left
                              · simp only [Act.put, List.setIfInBounds_toArray, List.set_cons_zero, List.set_cons_succ, i64_w, i32_w]
                                rfl
                              refine pure_ (i := 8) (N := some 49) (v := ?_) (a' := ?_) #[true, true, true, true, false, false, false, false, true, false, false, false, false, false] rfl rfl (any_of HT_.out (by kernel_rfl)) (fun _ _ _ h => h) (Or.inl ⟨by rfl, ?_⟩) ?_ ?_
                              rotate_left
                              · intro w'
                                go_simp
                                first | with_reducible rfl | (rw [if_neg (cat_le (by assumption) (by assumption))]) | (rw [if_neg (cat_le2 (by assumption) (by assumption))])
                              rotate_left
                              · simp only [Act.put, List.setIfInBounds_toArray, List.set_cons_zero, List.set_cons_succ, i64_w, i32_w]
                                rfl
                              refine pure_ (i := 9) (N := some 50) (v := ?_) (a' := ?_) #[true, true, true, true, false, false, false, false, true, true, false, false, false, false] rfl rfl (any_of HT_.out (by kernel_rfl)) (fun _ _ _ h => h) (Or.inl ⟨by rfl, ?_⟩) ?_ ?_
                              rotate_left
                              · intro w'
                                go_simp
                                first | with_reducible rfl | (rw [if_neg (cat_le (by assumption) (by assumption))]) | (rw [if_neg (cat_le2 (by assumption) (by assumption))])
                              rotate_left
                              · simp only [Act.put, List.setIfInBounds_toArray, List.set_cons_zero, List.set_cons_succ, i64_w, i32_w]
                                rfl
                              refine pure_ (i := 10) (N := some 51) (v := ?_) (a' := ?_) #[true, true, true, true, false, false, false, false, true, true, true, false, false, false] rfl rfl (any_of HT_.out (by kernel_rfl)) (fun _ _ _ h => h) (Or.inl ⟨by rfl, ?_⟩) ?_ ?_
                              rotate_left
                              · intro w'
                                go_simp
                                first | with_reducible rfl | (rw [if_neg (cat_le (by assumption) (by assumption))]) | (rw [if_neg (cat_le2 (by assumption) (by assumption))])
                              rotate_left
                              · simp only [Act.put, List.setIfInBounds_toArray, List.set_cons_zero, List.set_cons_succ, i64_w, i32_w]
                                rfl
                              refine pure_ (i := 11) (N := some 52) (v := ?_) (a' := ?_) #[true, true, true, true, false, false, false, false, true, true, true, true, false, false] rfl rfl (any_of HT_.out (by kernel_rfl)) (fun _ _ _ h => h) (Or.inl ⟨by rfl, ?_⟩) ?_ ?_
                              rotate_left
                              · intro w'
                                go_simp
                                first | with_reducible rfl | (rw [if_neg (cat_le (by assumption) (by assumption))]) | (rw [if_neg (cat_le2 (by assumption) (by assumption))])
                              rotate_left
                              · simp only [Act.put, List.setIfInBounds_toArray, List.set_cons_zero, List.set_cons_succ, i64_w, i32_w]
                                rfl
                              refine take_ (i := 4) (N := some 45) (v := ?_) (a' := ?_) #[true, true, true, true, true, false, false, false, true, true, true, true, false, false] rfl rfl (take_ofW HT_.out HW_.out (by kernel_rfl)) (fun _ _ _ h => h) (Or.inl ⟨by rfl, ?_⟩) hHeld ?_ ?_
                              rotate_left
                              · rintro w' ⟨s0, s1⟩
                                go_simp
                                first | with_reducible rfl | (rw [if_neg (cat_le (by assumption) (by assumption))]) | (rw [if_neg (cat_le2 (by assumption) (by assumption))])
                              rotate_left
                              · simp only [Act.put, List.setIfInBounds_toArray, List.set_cons_zero, List.set_cons_succ, i64_w, i32_w]
                                rfl
                              refine one_ (i := 5) (N := some 46) #[true, true, true, true, true, true, false, false, true, true, true, true, false, false] rfl rfl (one_of HT_.out (by kernel_rfl)) (by decide) (fun K hK => ?_)
                              refine Kd.R_lit_step (Kd.int .u8) _ 5 ?hg (N := 46) ?hd (xs := ([a2_1] : List Int)) (inner := [.int .u8 a2_1]) (ok := fun _ => True) (okp := fun _ => True) ?hr ?hp (fun _ hk => hk) trivial (Below.refl _ _) (Nat.le_refl _) (by simp) ?_; (case hd => rfl); (case hg => rfl); (case hr => first | (go_simp; done) | (go_simp; rfl)); (case hp => exact (Reps.one (show Kd.M (Kd.int .u8) _ _ _ a2_1 [.int .u8 a2_1] from rfl) (Reps.none _ _)))
                              intro v243 w36 ho37 hb hg_ hnew_
                              clear hg_ hnew_
                              (first | rw [← Ny242.out] at ho37 | (simp only [Int.reduceToNat] at ho37; rw [← Ny242.out] at ho37))
                              have n0_ := Aside0.mk (Kd.R_lower ho37 (below_size (by repeat (first | (with_reducible first | exact HB.out | apply below_alloc | apply pw_below_drewN | apply below_drew1 | refine below_set ?_ GE236.out) | exact HB.out))))
                              have n1_ := Aside0.mk (blk_below (g := gb236) (o := .cells #[.int .u8 a2_0, .int .u8 a2_1] 26 (0, 0)) (by (with_reducible repeat (first | refine blk_drewN ?_ _ | refine blk_drew ?_ | refine blk_alloc ?_ _)); exact BK236.out) hb)
                              have n2_ := Aside0.mk (below_step (by repeat (first | (with_reducible first | exact HB.out | apply below_alloc | apply pw_below_drewN | apply below_drew1 | refine below_set ?_ GE236.out) | exact HB.out)) hb)
                              clear BK236
                              clear HB
                              have HO244 := n0_
                              have BK236 := n1_
                              have HB := n2_
                              clear n0_ n1_ n2_
                              clear hb ho37
                              refine hK.out _ _ ⟨(blk_cell BK236.out 0).trans rfl, (blk_cell BK236.out 1).trans rfl⟩ (fun hHeld => ?_)
                              clear hK K
                              refine norm_ (a' := ?_) ?_ ?_
                              rotate_left
                              · show Act.put _ (some 46) _ = _
                                simp only [Act.put, List.setIfInBounds_toArray, List.set_cons_zero, List.set_cons_succ, i64_w, i32_w]
                                rfl
                              refine one_ (i := 6) (N := some 47) #[true, true, true, true, true, true, true, false, true, true, true, true, false, false] rfl rfl (one_of HT_.out (by kernel_rfl)) (by decide) (fun K hK => ?_)
                              have hcv38 := own_string (P := Try.prog) Try.underlying32 Try.underlying5 Try.underlying9 (Kd.own_of_R HO244.out)
                              refine value_ (w1 := ?_) (v := ?_) (by rfl) rfl ?_ ?_
                              rotate_left 2
                              · go_simp
                                constructor
                                · rfl
                                · rfl
                              clear hcv38
                              refine hK.out _ _ ⟨(blk_cell BK236.out 0).trans rfl, (blk_cell BK236.out 1).trans rfl⟩ (fun hHeld => ?_)
                              clear hK K
                              refine norm_ (a' := ?_) ?_ ?_
                              rotate_left
                              · show Act.put _ (some 47) _ = _
                                simp only [Act.put, List.setIfInBounds_toArray, List.set_cons_zero, List.set_cons_succ, i64_w, i32_w]
                                rfl
                              refine pure_ (i := 7) (N := some 48) (v := ?_) (a' := ?_) #[true, true, true, true, true, true, true, true, true, true, true, true, false, false] rfl rfl (any_of HT_.out (by kernel_rfl)) (fun _ _ _ h => h) (Or.inl ⟨by rfl, ?_⟩) ?_ ?_
                              rotate_left
                              · intro w'
                                go_simp
                                first | with_reducible rfl | (rw [if_neg (cat_le (by assumption) (by assumption))]) | (rw [if_neg (cat_le2 (by assumption) (by assumption))])
                              rotate_left
                              · simp only [Act.put, List.setIfInBounds_toArray, List.set_cons_zero, List.set_cons_succ, i64_w, i32_w]
                                rfl
                              refine pure_ (i := 12) (N := some 53) (v := ?_) (a' := ?_) #[true, true, true, true, true, true, true, true, true, true, true, true, true, false] rfl rfl (any_of HT_.out (by kernel_rfl)) (fun _ _ _ h => h) (Or.inl ⟨by rfl, ?_⟩) ?_ ?_
                              rotate_left
                              · intro w'
                                go_simp
                                first | with_reducible rfl | (rw [if_neg (cat_le (by assumption) (by assumption))]) | (rw [if_neg (cat_le2 (by assumption) (by assumption))])
                              rotate_left
                              · simp only [Act.put, List.setIfInBounds_toArray, List.set_cons_zero, List.set_cons_succ, i64_w, i32_w]
                                rfl
                              refine pure_ (i := 13) (N := some 10) (v := ?_) (a' := ?_) #[true, true, true, true, true, true, true, true, true, true, true, true, true, true] rfl rfl (any_of HT_.out (by kernel_rfl)) (fun _ _ _ h => h) (Or.inl ⟨by rfl, ?_⟩) ?_ ?_
                              rotate_left
                              · intro w'
                                go_simp
                                first | with_reducible rfl | (rw [if_neg (cat_le (by assumption) (by assumption))]) | (rw [if_neg (cat_le2 (by assumption) (by assumption))])
                              rotate_left
                              · simp only [Act.put, List.setIfInBounds_toArray, List.set_cons_zero, List.set_cons_succ, i64_w, i32_w]
                                rfl
                              refine done_ (done_of HT_.out (by kernel_rfl)) ?_
                              try go_wp2_with (first | ((with_reducible refine gate_callee (f := 20) rfl ?_); refine goesL_ (some 55) rfl rfl Try.func20 (by kernel_rfl) rfl #[.string (((t238.extract 0 ((ji19) : Int).toNat) ++ (strOfNums y242)) ++ (t238.extract ((ji23) : Int).toNat t238.size))] rfl (by (try simp only [List.map_toArray, List.map_cons, List.map_nil]); first | done | (simp only [hji19, hji23]; rfl) | rfl | (simp only [List.length_drop, List.length_take]; rfl)) ?_; (with_reducible refine (parolelaw03_parsed.calls kj6 (((t238.extract 0 ((ji19) : Int).toNat) ++ (strOfNums y242)) ++ (t238.extract ((ji23) : Int).toNat t238.size)) t245 t246 _ A27.out).mono ?_); rintro e w39 ⟨rfl, hb⟩; refine ⟨_, rfl, ?_⟩; have n0_ := Aside0.mk (Kd.R_below (by (with_reducible repeat (first | apply Kd.R_alloc | apply Kd.R_drewN | apply Kd.R_drew)); exact HO244.out) hb); have n1_ := Aside0.mk (blk_below (g := gb236) (o := .cells #[.int .u8 a2_0, .int .u8 a2_1] 26 (0, 0)) (by (with_reducible repeat (first | refine blk_drewN ?_ _ | refine blk_drew ?_ | refine blk_alloc ?_ _)); exact BK236.out) hb); have n2_ := Aside0.mk (below_step (by repeat (first | (with_reducible first | exact HB.out | apply below_alloc | apply pw_below_drewN | apply below_drew1 | refine below_set ?_ GE236.out) | exact HB.out)) hb); clear HO244; clear BK236; clear HB; have HO244 := n0_; have BK236 := n1_; have HB := n2_; clear n0_ n1_ n2_; (try clear hb); (try clear hb2); (try clear hk); (try clear hi)) | ((with_reducible refine gate_dst (N := 11) rfl ?_); refine box_event ?hg (N := 11) ?hd (cs := #[.int .u64 0, .int .i64 0]) (t := 30) ?hr ?_; (case hd => rfl); (case hg => rfl); (case hr => first | (go_simp; done) | (go_simp; rfl)); intro gb247 hg w40 hbox hb; have n0_ := Aside0.mk (Kd.R_below (by (with_reducible repeat (first | apply Kd.R_alloc | apply Kd.R_drewN | apply Kd.R_drew)); exact HO244.out) hb); have n1_ := Aside0.mk (blk_below (g := gb236) (o := .cells #[.int .u8 a2_0, .int .u8 a2_1] 26 (0, 0)) (by (with_reducible repeat (first | refine blk_drewN ?_ _ | refine blk_drew ?_ | refine blk_alloc ?_ _)); exact BK236.out) hb); have n2_ := Aside0.mk (below_step (by repeat (first | (with_reducible first | exact HB.out | apply below_alloc | apply pw_below_drewN | apply below_drew1 | refine below_set ?_ GE236.out) | exact HB.out)) hb); have n3_ := Aside0.mk (hbox); have n4_ := Aside0.mk ((by rw [hg]; exact (below_size (by repeat (first | (with_reducible first | exact HB.out | apply below_alloc | apply pw_below_drewN | apply below_drew1 | refine below_set ?_ GE236.out) | exact HB.out))) : w.heap.size ≤ gb247)); have n5_ := Aside0.mk ((by rw [hg]; exact (below_size (by repeat (first | (with_reducible first | exact HB.out | apply below_alloc | apply pw_below_drewN | apply below_drew1 | refine below_set ?_ GE236.out) | exact HB.out))) : w.heap.size ≤ gb247)); have n6_ := Aside0.mk ((by rw [hg]; exact Nat.ne_of_lt (blk_lt (g := gb236) (o := .cells #[.int .u8 a2_0, .int .u8 a2_1] 26 (0, 0)) (by (with_reducible repeat (first | refine blk_drewN ?_ _ | refine blk_drew ?_ | refine blk_alloc ?_ _)); exact BK236.out)) : gb236 ≠ gb247)); have n7_ := Aside0.mk ((by rw [hg]; exact Nat.ne_of_gt (blk_lt (g := gb236) (o := .cells #[.int .u8 a2_0, .int .u8 a2_1] 26 (0, 0)) (by (with_reducible repeat (first | refine blk_drewN ?_ _ | refine blk_drew ?_ | refine blk_alloc ?_ _)); exact BK236.out)) : gb247 ≠ gb236)); clear HO244; clear BK236; clear HB; have HO244 := n0_; have BK236 := n1_; have HB := n2_; have BK247 := n3_; have GW247 := n4_; have GE247 := n5_; have NB236_247 := n6_; have NB247_236 := n7_; clear n0_ n1_ n2_ n3_ n4_ n5_ n6_ n7_; clear hb hbox hg; have hnb41 := NB247_236.out; have hnc41 := NB236_247.out; have hcz42_0 : w40.cell? ⟨gb247, 0, none⟩ = some (.int .u64 0) := (blk_cell BK247.out 0).trans rfl; have hcz42_1 : w40.cell? ⟨gb247, 1, none⟩ = some (.int .i64 0) := (blk_cell BK247.out 1).trans rfl; have hfz42_0 := blk_frozen BK247.out 0; have hfz42_1 := blk_frozen BK247.out 1) | ((with_reducible refine gate_callee (f := 19) rfl ?_); refine goesL_ (some 75) rfl rfl Try.func19 (by kernel_rfl) rfl #[.int .u64 t245] rfl (by (try simp only [List.map_toArray, List.map_cons, List.map_nil]); first | done | rfl | (simp only [List.length_drop, List.length_take]; rfl)) ?_; (with_reducible refine (digest_Text.calls t245 t248 _ A29.out).mono ?_); rintro e w43 ⟨rfl, hb⟩; refine ⟨_, rfl, ?_⟩; have n0_ := Aside0.mk (Kd.R_below (by (with_reducible repeat (first | apply Kd.R_alloc | apply Kd.R_drewN | apply Kd.R_drew)); exact (Kd.R_mono (Kd.R_far (p := ⟨gb247, 1, none⟩) (Kd.R_far (p := ⟨gb247, 0, none⟩) (Kd.R_types HO244.out BK247.out (by decide)) (fun _ hk => by first | exact hk.2 | exact hk | exact ⟨hk.2, hk.1⟩ | simp_all) (.int .u64 t245)) (fun _ hk => by first | exact hk.2 | exact hk | exact ⟨hk.2, hk.1⟩ | simp_all) (.int .i64 t246)) (fun _ h_ => h_.1))) hb); have n1_ := Aside0.mk (blk_below (g := gb236) (o := .cells #[.int .u8 a2_0, .int .u8 a2_1] 26 (0, 0)) (by (with_reducible repeat (first | refine blk_drewN ?_ _ | refine blk_drew ?_ | refine blk_alloc ?_ _)); refine blk_far ?_ NB236_247.out _; (with_reducible repeat (first | refine blk_drewN ?_ _ | refine blk_drew ?_ | refine blk_alloc ?_ _)); refine blk_far ?_ NB236_247.out _; (with_reducible repeat (first | refine blk_drewN ?_ _ | refine blk_drew ?_ | refine blk_alloc ?_ _)); exact BK236.out) hb); have n2_ := Aside0.mk (blk_below (g := gb247) (o := .cells #[.int .u64 t245, .int .i64 t246] 30 (0, 0)) (by (with_reducible repeat (first | refine blk_drewN ?_ _ | refine blk_drew ?_ | refine blk_alloc ?_ _)); refine blk_put (cs := #[.int .u64 t245, .int .i64 0]) ?_ 1 _ rfl; (with_reducible repeat (first | refine blk_drewN ?_ _ | refine blk_drew ?_ | refine blk_alloc ?_ _)); refine blk_put (cs := #[.int .u64 0, .int .i64 0]) ?_ 0 _ rfl; (with_reducible repeat (first | refine blk_drewN ?_ _ | refine blk_drew ?_ | refine blk_alloc ?_ _)); exact BK247.out) hb); have n3_ := Aside0.mk (below_step (by repeat (first | (with_reducible first | exact HB.out | apply below_alloc | apply pw_below_drewN | apply below_drew1 | refine below_set ?_ GE236.out | refine below_set ?_ GE247.out) | exact HB.out)) hb); clear HO244; clear BK236; clear BK247; clear HB; have HO244 := n0_; have BK236 := n1_; have BK247 := n2_; have HB := n3_; clear n0_ n1_ n2_ n3_; (try clear hb); (try clear hb2); (try clear hk); (try clear hi)) | (go_at_call 20; (with_reducible refine (parolelaw03_parsed.calls kj6 (t238 ++ (⟨#[48]⟩ : ByteArray)) t249 t250 _ A32.out).mono ?_); rintro e w44 ⟨rfl, hb⟩; have n0_ := Aside0.mk (Kd.R_below (by (with_reducible repeat (first | apply Kd.R_alloc | apply Kd.R_drewN | apply Kd.R_drew)); exact HO244.out) hb); have n1_ := Aside0.mk (blk_below (g := gb236) (o := .cells #[.int .u8 a2_0, .int .u8 a2_1] 26 (0, 0)) (by (with_reducible repeat (first | refine blk_drewN ?_ _ | refine blk_drew ?_ | refine blk_alloc ?_ _)); exact BK236.out) hb); have n2_ := Aside0.mk (blk_below (g := gb247) (o := .cells #[.int .u64 t245, .int .i64 t246] 30 (0, 0)) (by (with_reducible repeat (first | refine blk_drewN ?_ _ | refine blk_drew ?_ | refine blk_alloc ?_ _)); exact BK247.out) hb); have n3_ := Aside0.mk (below_step (by repeat (first | (with_reducible first | exact HB.out | apply below_alloc | apply pw_below_drewN | apply below_drew1 | refine below_set ?_ GE236.out | refine below_set ?_ GE247.out) | exact HB.out)) hb); clear HO244; clear BK236; clear BK247; clear HB; have HO244 := n0_; have BK236 := n1_; have BK247 := n2_; have HB := n3_; clear n0_ n1_ n2_ n3_; (try clear hb); (try clear hb2); (try clear hk); (try clear hi)))
                              go_ret
                              exact ⟨by first | rfl | (simp [errW_none, errW_some] <;> rfl) | (simp only [← hji19, ← hji23]; first | rfl | (simp [errW_none, errW_some] <;> rfl)) | (simp [*, errW_none, errW_some] <;> rfl), by repeat (first | (with_reducible first | exact HB.out | apply below_alloc | apply pw_below_drewN | apply below_drew1 | refine below_set ?_ GE236.out | refine below_set ?_ GE247.out) | exact HB.out)⟩
                            · rw [if_neg c33] at H
                              exact absurd H (by simp)
                          · rw [if_neg c31] at H
                            exact absurd H (by simp)
                        · rw [if_neg c30] at H
                          exact absurd H (by simp)
                      · rw [if_neg c28] at H
                        have c28b0 : (t246 == 0) = false := beq_eq_false_iff_ne.mpr c28
                        have c28b1 : (t246 != 0) = true := bne_iff_ne.mpr c28
                        by_cases c45 : (t245 == 0 && (t246 == 3)) = true
                        · rw [if_pos c45] at H
                          have c45b0 : (t245 == 0 && (t246 == 3)) = true := c45
                          (try (have c45b1 : decide (t245 = 0 && (t246 == 3)) = true := by simpa using c45))
                          (try (have c45b2 : (t245 == 0 && (t246 == 3)) = true := by simpa using c45))
                          clear c45
                          have c46b0 := eq_true (of_decide_eq_true (by first | (with_reducible assumption) | assumption) : 0 ≤ (ji19))
                          have c47b0 := eq_true (of_decide_eq_true (by first | (with_reducible assumption) | assumption) : (ji19) ≤ (t238.size : Int))
                          replace H := Option.bind_eq_some_iff.mp H
                          obtain ⟨⟨t251, t252⟩, A480, H⟩ := H
                          replace H : (if t252 = 3 then (some true) else (none)) = some r := H
                          have A48 := Aside0.mk A480
                          clear A480
                          by_cases c49 : t252 = 3
                          · rw [if_pos c49] at H
                            have c49b0 : (t252 == 3) = true := beq_iff_eq.mpr c49
                            have c49b1 : (t252 != 3) = false := bne_eq_false_iff_eq.mpr c49
                            clear c49
                            obtain rfl := Option.some.inj H
                            have hcz50_0 : wc.cell? ⟨gb236, 0, none⟩ = some (.int .u8 a2_0) := (blk_cell BK236.out 0).trans rfl
                            have hcz50_1 : wc.cell? ⟨gb236, 1, none⟩ = some (.int .u8 a2_1) := (blk_cell BK236.out 1).trans rfl
                            have hfz50_0 := blk_frozen BK236.out 0
                            have hfz50_1 := blk_frozen BK236.out 1
                            try go_wp2
                            have n0_ := Aside0.mk (blk_drew BK236.out)
                            have n1_ := Aside0.mk (below_drew1 HB.out)
                            clear BK236
                            clear HB
                            have BK236 := n0_
                            have HB := n1_
                            clear n0_ n1_
                            refine start_ (n := 14) (S := fun w' => w'.cell? ⟨gb236, 0, none⟩ = some (.int .u8 a2_0) ∧ w'.cell? ⟨gb236, 1, none⟩ = some (.int .u8 a2_1)) (ds := []) #[false, false, false, false, false, false, false, false, false, false, false, false, false, false] (by kernel_rfl) rfl rfl ⟨(blk_cell BK236.out 0).trans rfl, (blk_cell BK236.out 1).trans rfl⟩ (fun hHeld => ?_); refine with_tabW parolelaw03_DigestTexts.tab8 parolelaw03_DigestTexts.bits8 (fun HT_ HW_ => ?_)
                            generalize wc.drew = w51 at BK236 HB hHeld ⊢
                            refine pure_ (i := 0) (N := some 41) (v := ?_) (a' := ?_) #[true, false, false, false, false, false, false, false, false, false, false, false, false, false] rfl rfl (any_of HT_.out (by kernel_rfl)) (fun _ _ _ h => h) (Or.inl ⟨by rfl, ?_⟩) ?_ ?_
                            rotate_left
                            · intro w'
                              go_simp
                              first | with_reducible rfl | (rw [if_neg (cat_le (by assumption) (by assumption))]) | (rw [if_neg (cat_le2 (by assumption) (by assumption))])
                            rotate_left
                            · simp only [Act.put, List.setIfInBounds_toArray, List.set_cons_zero, List.set_cons_succ, i64_w, i32_w]
                              rfl
                            refine pure_ (i := 1) (N := some 42) (v := ?_) (a' := ?_) #[true, true, false, false, false, false, false, false, false, false, false, false, false, false] rfl rfl (any_of HT_.out (by kernel_rfl)) (fun _ _ _ h => h) (Or.inl ⟨by rfl, ?_⟩) ?_ ?_
                            rotate_left
                            · intro w'
                              go_simp
                              first | with_reducible rfl | (rw [if_neg (cat_le (by assumption) (by assumption))]) | (rw [if_neg (cat_le2 (by assumption) (by assumption))])
                            rotate_left
                            · simp only [Act.put, List.setIfInBounds_toArray, List.set_cons_zero, List.set_cons_succ, i64_w, i32_w]
                              rfl
                            refine pure_ (i := 2) (N := some 43) (v := ?_) (a' := ?_) #[true, true, true, false, false, false, false, false, false, false, false, false, false, false] rfl rfl (any_of HT_.out (by kernel_rfl)) (fun _ _ _ h => h) (Or.inl ⟨by rfl, ?_⟩) ?_ ?_
                            rotate_left
                            · intro w'
                              go_simp
                              first | with_reducible rfl | (rw [if_neg (cat_le (by assumption) (by assumption))]) | (rw [if_neg (cat_le2 (by assumption) (by assumption))])
                            rotate_left
                            · simp only [Act.put, List.setIfInBounds_toArray, List.set_cons_zero, List.set_cons_succ, i64_w, i32_w]
                              rfl
                            refine pure_ (i := 3) (N := some 44) (v := ?_) (a' := ?_) #[true, true, true, true, false, false, false, false, false, false, false, false, false, false] rfl rfl (any_of HT_.out (by kernel_rfl)) (fun _ _ _ h => h) (Or.inl ⟨by rfl, ?_⟩) ?_ ?_
                            rotate_left
                            · intro w'
                              go_simp
                              first | with_reducible rfl | (rw [if_neg (cat_le (by assumption) (by assumption))]) | (rw [if_neg (cat_le2 (by assumption) (by assumption))])
                            rotate_left
                            · simp only [Act.put, List.setIfInBounds_toArray, List.set_cons_zero, List.set_cons_succ, i64_w, i32_w]
                              rfl
                            refine pure_ (i := 8) (N := some 49) (v := ?_) (a' := ?_) #[true, true, true, true, false, false, false, false, true, false, false, false, false, false] rfl rfl (any_of HT_.out (by kernel_rfl)) (fun _ _ _ h => h) (Or.inl ⟨by rfl, ?_⟩) ?_ ?_
                            rotate_left
                            · intro w'
                              go_simp
                              first | with_reducible rfl | (rw [if_neg (cat_le (by assumption) (by assumption))]) | (rw [if_neg (cat_le2 (by assumption) (by assumption))])
                            rotate_left
                            · simp only [Act.put, List.setIfInBounds_toArray, List.set_cons_zero, List.set_cons_succ, i64_w, i32_w]
                              rfl
                            refine pure_ (i := 9) (N := some 50) (v := ?_) (a' := ?_) #[true, true, true, true, false, false, false, false, true, true, false, false, false, false] rfl rfl (any_of HT_.out (by kernel_rfl)) (fun _ _ _ h => h) (Or.inl ⟨by rfl, ?_⟩) ?_ ?_
                            rotate_left
                            · intro w'
                              go_simp
                              first | with_reducible rfl | (rw [if_neg (cat_le (by assumption) (by assumption))]) | (rw [if_neg (cat_le2 (by assumption) (by assumption))])
                            rotate_left
                            · simp only [Act.put, List.setIfInBounds_toArray, List.set_cons_zero, List.set_cons_succ, i64_w, i32_w]
                              rfl
                            refine pure_ (i := 10) (N := some 51) (v := ?_) (a' := ?_) #[true, true, true, true, false, false, false, false, true, true, true, false, false, false] rfl rfl (any_of HT_.out (by kernel_rfl)) (fun _ _ _ h => h) (Or.inl ⟨by rfl, ?_⟩) ?_ ?_
                            rotate_left
                            · intro w'
                              go_simp
                              first | with_reducible rfl | (rw [if_neg (cat_le (by assumption) (by assumption))]) | (rw [if_neg (cat_le2 (by assumption) (by assumption))])
                            rotate_left
                            · simp only [Act.put, List.setIfInBounds_toArray, List.set_cons_zero, List.set_cons_succ, i64_w, i32_w]
                              rfl
                            refine pure_ (i := 11) (N := some 52) (v := ?_) (a' := ?_) #[true, true, true, true, false, false, false, false, true, true, true, true, false, false] rfl rfl (any_of HT_.out (by kernel_rfl)) (fun _ _ _ h => h) (Or.inl ⟨by rfl, ?_⟩) ?_ ?_
                            rotate_left
                            · intro w'
                              go_simp
                              first | with_reducible rfl | (rw [if_neg (cat_le (by assumption) (by assumption))]) | (rw [if_neg (cat_le2 (by assumption) (by assumption))])
                            rotate_left
                            · simp only [Act.put, List.setIfInBounds_toArray, List.set_cons_zero, List.set_cons_succ, i64_w, i32_w]
                              rfl
                            refine take_ (i := 4) (N := some 45) (v := ?_) (a' := ?_) #[true, true, true, true, true, false, false, false, true, true, true, true, false, false] rfl rfl (take_ofW HT_.out HW_.out (by kernel_rfl)) (fun _ _ _ h => h) (Or.inl ⟨by rfl, ?_⟩) hHeld ?_ ?_
                            rotate_left
                            · rintro w' ⟨s0, s1⟩
                              go_simp
                              first | with_reducible rfl | (rw [if_neg (cat_le (by assumption) (by assumption))]) | (rw [if_neg (cat_le2 (by assumption) (by assumption))])
                            rotate_left
                            · simp only [Act.put, List.setIfInBounds_toArray, List.set_cons_zero, List.set_cons_succ, i64_w, i32_w]
                              rfl
                            refine one_ (i := 5) (N := some 46) #[true, true, true, true, true, true, false, false, true, true, true, true, false, false] rfl rfl (one_of HT_.out (by kernel_rfl)) (by decide) (fun K hK => ?_)
                            refine Kd.R_lit_step (Kd.int .u8) _ 5 ?hg (N := 46) ?hd (xs := ([a2_1] : List Int)) (inner := [.int .u8 a2_1]) (ok := fun _ => True) (okp := fun _ => True) ?hr ?hp (fun _ hk => hk) trivial (Below.refl _ _) (Nat.le_refl _) (by simp) ?_; (case hd => rfl); (case hg => rfl); (case hr => first | (go_simp; done) | (go_simp; rfl)); (case hp => exact (Reps.one (show Kd.M (Kd.int .u8) _ _ _ a2_1 [.int .u8 a2_1] from rfl) (Reps.none _ _)))
                            intro v243 w52 ho53 hb hg_ hnew_
                            clear hg_ hnew_
                            (first | rw [← Ny242.out] at ho53 | (simp only [Int.reduceToNat] at ho53; rw [← Ny242.out] at ho53))
                            have n0_ := Aside0.mk (Kd.R_lower ho53 (below_size (by repeat (first | (with_reducible first | exact HB.out | apply below_alloc | apply pw_below_drewN | apply below_drew1 | refine below_set ?_ GE236.out) | exact HB.out))))
                            have n1_ := Aside0.mk (blk_below (g := gb236) (o := .cells #[.int .u8 a2_0, .int .u8 a2_1] 26 (0, 0)) (by (with_reducible repeat (first | refine blk_drewN ?_ _ | refine blk_drew ?_ | refine blk_alloc ?_ _)); exact BK236.out) hb)
                            have n2_ := Aside0.mk (below_step (by repeat (first | (with_reducible first | exact HB.out | apply below_alloc | apply pw_below_drewN | apply below_drew1 | refine below_set ?_ GE236.out) | exact HB.out)) hb)
                            clear BK236
                            clear HB
                            have HO244 := n0_
                            have BK236 := n1_
                            have HB := n2_
                            clear n0_ n1_ n2_
                            clear hb ho53
                            refine hK.out _ _ ⟨(blk_cell BK236.out 0).trans rfl, (blk_cell BK236.out 1).trans rfl⟩ (fun hHeld => ?_)
                            clear hK K
                            refine norm_ (a' := ?_) ?_ ?_
                            rotate_left
                            · show Act.put _ (some 46) _ = _
                              simp only [Act.put, List.setIfInBounds_toArray, List.set_cons_zero, List.set_cons_succ, i64_w, i32_w]
                              rfl
                            refine one_ (i := 6) (N := some 47) #[true, true, true, true, true, true, true, false, true, true, true, true, false, false] rfl rfl (one_of HT_.out (by kernel_rfl)) (by decide) (fun K hK => ?_)
                            have hcv54 := own_string (P := Try.prog) Try.underlying32 Try.underlying5 Try.underlying9 (Kd.own_of_R HO244.out)
                            refine value_ (w1 := ?_) (v := ?_) (by rfl) rfl ?_ ?_
                            rotate_left 2
                            · go_simp
                              constructor
                              · rfl
                              · rfl
                            clear hcv54
                            refine hK.out _ _ ⟨(blk_cell BK236.out 0).trans rfl, (blk_cell BK236.out 1).trans rfl⟩ (fun hHeld => ?_)
                            clear hK K
                            refine norm_ (a' := ?_) ?_ ?_
                            rotate_left
                            · show Act.put _ (some 47) _ = _
                              simp only [Act.put, List.setIfInBounds_toArray, List.set_cons_zero, List.set_cons_succ, i64_w, i32_w]
                              rfl
                            refine pure_ (i := 7) (N := some 48) (v := ?_) (a' := ?_) #[true, true, true, true, true, true, true, true, true, true, true, true, false, false] rfl rfl (any_of HT_.out (by kernel_rfl)) (fun _ _ _ h => h) (Or.inl ⟨by rfl, ?_⟩) ?_ ?_
                            rotate_left
                            · intro w'
                              go_simp
                              first | with_reducible rfl | (rw [if_neg (cat_le (by assumption) (by assumption))]) | (rw [if_neg (cat_le2 (by assumption) (by assumption))])
                            rotate_left
                            · simp only [Act.put, List.setIfInBounds_toArray, List.set_cons_zero, List.set_cons_succ, i64_w, i32_w]
                              rfl
                            refine pure_ (i := 12) (N := some 53) (v := ?_) (a' := ?_) #[true, true, true, true, true, true, true, true, true, true, true, true, true, false] rfl rfl (any_of HT_.out (by kernel_rfl)) (fun _ _ _ h => h) (Or.inl ⟨by rfl, ?_⟩) ?_ ?_
                            rotate_left
                            · intro w'
                              go_simp
                              first | with_reducible rfl | (rw [if_neg (cat_le (by assumption) (by assumption))]) | (rw [if_neg (cat_le2 (by assumption) (by assumption))])
                            rotate_left
                            · simp only [Act.put, List.setIfInBounds_toArray, List.set_cons_zero, List.set_cons_succ, i64_w, i32_w]
                              rfl
                            refine pure_ (i := 13) (N := some 10) (v := ?_) (a' := ?_) #[true, true, true, true, true, true, true, true, true, true, true, true, true, true] rfl rfl (any_of HT_.out (by kernel_rfl)) (fun _ _ _ h => h) (Or.inl ⟨by rfl, ?_⟩) ?_ ?_
                            rotate_left
                            · intro w'
                              go_simp
                              first | with_reducible rfl | (rw [if_neg (cat_le (by assumption) (by assumption))]) | (rw [if_neg (cat_le2 (by assumption) (by assumption))])
                            rotate_left
                            · simp only [Act.put, List.setIfInBounds_toArray, List.set_cons_zero, List.set_cons_succ, i64_w, i32_w]
                              rfl
                            refine done_ (done_of HT_.out (by kernel_rfl)) ?_
                            try go_wp2_with (first | ((with_reducible refine gate_callee (f := 20) rfl ?_); refine goesL_ (some 55) rfl rfl Try.func20 (by kernel_rfl) rfl #[.string (((t238.extract 0 ((ji19) : Int).toNat) ++ (strOfNums y242)) ++ (t238.extract ((ji23) : Int).toNat t238.size))] rfl (by (try simp only [List.map_toArray, List.map_cons, List.map_nil]); first | done | (simp only [hji19, hji23]; rfl) | rfl | (simp only [List.length_drop, List.length_take]; rfl)) ?_; (with_reducible refine (parolelaw03_parsed.calls kj6 (((t238.extract 0 ((ji19) : Int).toNat) ++ (strOfNums y242)) ++ (t238.extract ((ji23) : Int).toNat t238.size)) t245 t246 _ A27.out).mono ?_); rintro e w55 ⟨rfl, hb⟩; refine ⟨_, rfl, ?_⟩; have n0_ := Aside0.mk (Kd.R_below (by (with_reducible repeat (first | apply Kd.R_alloc | apply Kd.R_drewN | apply Kd.R_drew)); exact HO244.out) hb); have n1_ := Aside0.mk (blk_below (g := gb236) (o := .cells #[.int .u8 a2_0, .int .u8 a2_1] 26 (0, 0)) (by (with_reducible repeat (first | refine blk_drewN ?_ _ | refine blk_drew ?_ | refine blk_alloc ?_ _)); exact BK236.out) hb); have n2_ := Aside0.mk (below_step (by repeat (first | (with_reducible first | exact HB.out | apply below_alloc | apply pw_below_drewN | apply below_drew1 | refine below_set ?_ GE236.out) | exact HB.out)) hb); clear HO244; clear BK236; clear HB; have HO244 := n0_; have BK236 := n1_; have HB := n2_; clear n0_ n1_ n2_; (try clear hb); (try clear hb2); (try clear hk); (try clear hi)) | ((with_reducible refine gate_dst (N := 11) rfl ?_); refine box_event ?hg (N := 11) ?hd (cs := #[.int .u64 0, .int .i64 0]) (t := 30) ?hr ?_; (case hd => rfl); (case hg => rfl); (case hr => first | (go_simp; done) | (go_simp; rfl)); intro gb247 hg w56 hbox hb; have n0_ := Aside0.mk (Kd.R_below (by (with_reducible repeat (first | apply Kd.R_alloc | apply Kd.R_drewN | apply Kd.R_drew)); exact HO244.out) hb); have n1_ := Aside0.mk (blk_below (g := gb236) (o := .cells #[.int .u8 a2_0, .int .u8 a2_1] 26 (0, 0)) (by (with_reducible repeat (first | refine blk_drewN ?_ _ | refine blk_drew ?_ | refine blk_alloc ?_ _)); exact BK236.out) hb); have n2_ := Aside0.mk (below_step (by repeat (first | (with_reducible first | exact HB.out | apply below_alloc | apply pw_below_drewN | apply below_drew1 | refine below_set ?_ GE236.out) | exact HB.out)) hb); have n3_ := Aside0.mk (hbox); have n4_ := Aside0.mk ((by rw [hg]; exact (below_size (by repeat (first | (with_reducible first | exact HB.out | apply below_alloc | apply pw_below_drewN | apply below_drew1 | refine below_set ?_ GE236.out) | exact HB.out))) : w.heap.size ≤ gb247)); have n5_ := Aside0.mk ((by rw [hg]; exact (below_size (by repeat (first | (with_reducible first | exact HB.out | apply below_alloc | apply pw_below_drewN | apply below_drew1 | refine below_set ?_ GE236.out) | exact HB.out))) : w.heap.size ≤ gb247)); have n6_ := Aside0.mk ((by rw [hg]; exact Nat.ne_of_lt (blk_lt (g := gb236) (o := .cells #[.int .u8 a2_0, .int .u8 a2_1] 26 (0, 0)) (by (with_reducible repeat (first | refine blk_drewN ?_ _ | refine blk_drew ?_ | refine blk_alloc ?_ _)); exact BK236.out)) : gb236 ≠ gb247)); have n7_ := Aside0.mk ((by rw [hg]; exact Nat.ne_of_gt (blk_lt (g := gb236) (o := .cells #[.int .u8 a2_0, .int .u8 a2_1] 26 (0, 0)) (by (with_reducible repeat (first | refine blk_drewN ?_ _ | refine blk_drew ?_ | refine blk_alloc ?_ _)); exact BK236.out)) : gb247 ≠ gb236)); clear HO244; clear BK236; clear HB; have HO244 := n0_; have BK236 := n1_; have HB := n2_; have BK247 := n3_; have GW247 := n4_; have GE247 := n5_; have NB236_247 := n6_; have NB247_236 := n7_; clear n0_ n1_ n2_ n3_ n4_ n5_ n6_ n7_; clear hb hbox hg; have hnb57 := NB247_236.out; have hnc57 := NB236_247.out; have hcz58_0 : w56.cell? ⟨gb247, 0, none⟩ = some (.int .u64 0) := (blk_cell BK247.out 0).trans rfl; have hcz58_1 : w56.cell? ⟨gb247, 1, none⟩ = some (.int .i64 0) := (blk_cell BK247.out 1).trans rfl; have hfz58_0 := blk_frozen BK247.out 0; have hfz58_1 := blk_frozen BK247.out 1) | (go_at_call 20; (with_reducible refine (parolelaw03_parsed.calls kj6 (t238.extract 0 ((ji19) : Int).toNat) t251 t252 _ A48.out).mono ?_); rintro e w59 ⟨rfl, hb⟩; have n0_ := Aside0.mk (Kd.R_below (by (with_reducible repeat (first | apply Kd.R_alloc | apply Kd.R_drewN | apply Kd.R_drew)); exact (Kd.R_mono (Kd.R_far (p := ⟨gb247, 1, none⟩) (Kd.R_far (p := ⟨gb247, 0, none⟩) (Kd.R_types HO244.out BK247.out (by decide)) (fun _ hk => by first | exact hk.2 | exact hk | exact ⟨hk.2, hk.1⟩ | simp_all) (.int .u64 t245)) (fun _ hk => by first | exact hk.2 | exact hk | exact ⟨hk.2, hk.1⟩ | simp_all) (.int .i64 t246)) (fun _ h_ => h_.1))) hb); have n1_ := Aside0.mk (blk_below (g := gb236) (o := .cells #[.int .u8 a2_0, .int .u8 a2_1] 26 (0, 0)) (by (with_reducible repeat (first | refine blk_drewN ?_ _ | refine blk_drew ?_ | refine blk_alloc ?_ _)); refine blk_far ?_ NB236_247.out _; (with_reducible repeat (first | refine blk_drewN ?_ _ | refine blk_drew ?_ | refine blk_alloc ?_ _)); refine blk_far ?_ NB236_247.out _; (with_reducible repeat (first | refine blk_drewN ?_ _ | refine blk_drew ?_ | refine blk_alloc ?_ _)); exact BK236.out) hb); have n2_ := Aside0.mk (blk_below (g := gb247) (o := .cells #[.int .u64 t245, .int .i64 t246] 30 (0, 0)) (by (with_reducible repeat (first | refine blk_drewN ?_ _ | refine blk_drew ?_ | refine blk_alloc ?_ _)); refine blk_put (cs := #[.int .u64 t245, .int .i64 0]) ?_ 1 _ rfl; (with_reducible repeat (first | refine blk_drewN ?_ _ | refine blk_drew ?_ | refine blk_alloc ?_ _)); refine blk_put (cs := #[.int .u64 0, .int .i64 0]) ?_ 0 _ rfl; (with_reducible repeat (first | refine blk_drewN ?_ _ | refine blk_drew ?_ | refine blk_alloc ?_ _)); exact BK247.out) hb); have n3_ := Aside0.mk (below_step (by repeat (first | (with_reducible first | exact HB.out | apply below_alloc | apply pw_below_drewN | apply below_drew1 | refine below_set ?_ GE236.out | refine below_set ?_ GE247.out) | exact HB.out)) hb); clear HO244; clear BK236; clear BK247; clear HB; have HO244 := n0_; have BK236 := n1_; have BK247 := n2_; have HB := n3_; clear n0_ n1_ n2_ n3_; (try clear hb); (try clear hb2); (try clear hk); (try clear hi)))
                            go_ret
                            exact ⟨by first | rfl | (simp [errW_none, errW_some] <;> rfl) | (simp only [← hji19, ← hji23]; first | rfl | (simp [errW_none, errW_some] <;> rfl)) | (simp [*, errW_none, errW_some] <;> rfl), by repeat (first | (with_reducible first | exact HB.out | apply below_alloc | apply pw_below_drewN | apply below_drew1 | refine below_set ?_ GE236.out | refine below_set ?_ GE247.out) | exact HB.out)⟩
                          · rw [if_neg c49] at H
                            exact absurd H (by simp)
                        · rw [if_neg c45] at H
                          exact absurd H (by simp)
                    · rw [if_neg c26] at H
                      exact absurd H (by simp)
                  · rw [if_neg c25] at H
                    exact absurd H (by simp)
                · rw [if_neg c24] at H
                  exact absurd H (by simp)
              · rw [if_neg c22] at H
                exact absurd H (by simp)
            · rw [if_neg c21] at H
              exact absurd H (by simp)
          · rw [if_neg c20] at H
            exact absurd H (by simp)
  · replace c5 := Bool.eq_false_iff.mpr c5
    subst c5
    have H1 : (none) = some r := by rw [if_neg (show ¬ (false = true) by decide)] at H; exact H
    clear H
    have H := H1
    clear H1
    exact absurd H (by simp)

/-! ### merkle_halves_uint64: function 57 -/
def IsHalf (n k : Nat) : Prop := (∃ j, k = 2 ^ j) ∧ k < n ∧ n ≤ 2 * k
theorem IsHalf.unique {n k m : Nat} (h : IsHalf n k) (g : IsHalf n m) : k = m := by
  obtain ⟨⟨i, rfl⟩, h1, h2⟩ := h
  obtain ⟨⟨j, rfl⟩, g1, g2⟩ := g
  rcases Nat.lt_trichotomy i j with h | h | h
  · have := Nat.pow_le_pow_right (n := 2) (by decide) (show i + 1 ≤ j by omega)
    rw [Nat.pow_succ] at this; omega
  · rw [h]
  · have := Nat.pow_le_pow_right (n := 2) (by decide) (show j + 1 ≤ i by omega)
    rw [Nat.pow_succ] at this; omega
def halfG : Nat → Nat → Nat → Nat
  | 0, k, _ => k
  | f + 1, k, n => if 2 * k < n then halfG f (2 * k) n else k
def half (n : Nat) : Nat := halfG n 1 n
theorem halfG_is : ∀ (f j n : Nat), 2 ^ j < n → n ≤ f + 2 ^ j → IsHalf n (halfG f (2 ^ j) n)
  | 0, j, n, h, g => by omega
  | f + 1, j, n, h, g => by
    unfold halfG
    by_cases hc : 2 * 2 ^ j < n
    · rw [if_pos hc, show 2 * 2 ^ j = 2 ^ (j + 1) from by rw [Nat.pow_succ]; omega]
      have hp : 1 ≤ 2 ^ j := Nat.one_le_two_pow
      exact halfG_is f (j + 1) n (by rw [Nat.pow_succ]; omega) (by rw [Nat.pow_succ]; omega)
    · rw [if_neg hc]
      exact ⟨⟨j, rfl⟩, h, by omega⟩
theorem half_is (n : Nat) (h : 2 ≤ n) : IsHalf n (half n) := halfG_is n 0 n (by rw [Nat.pow_zero]; omega) (by omega)
theorem half_range (n : Nat) (h : 2 ≤ n) : 1 ≤ half n ∧ half n < n := by
  obtain ⟨⟨j, hj⟩, h1, _⟩ := half_is n h
  exact ⟨by rw [hj]; exact Nat.one_le_two_pow, h1⟩
theorem info22h : (Try.prog.info? 22).map (fun i => (i.zero, i.size, i.bytes)) = some (some (.int .u64 0), 1, 8) := by kernel_rfl
def HalvesPost (l : List Int) (A : Option Addr) (c : Nat) (w : World) (e : Ending) (w' : World) : Prop :=
  ∃ (A1 : Option Addr) (c1 : Nat), e = .returned (.tuple #[.slice A (l.take (half l.length)).length c, .slice A1 (l.drop (half l.length)).length c1]) ∧ (l.drop (half l.length)).length ≤ c1 ∧ (l.take (half l.length)).length ≤ c ∧
    (∀ W, Kd.C (Kd.int .u64) W A l.length l → Kd.C (Kd.int .u64) W A1 (l.drop (half l.length)).length (l.drop (half l.length))) ∧
    (∀ W, Kd.C (Kd.int .u64) W A l.length l → Kd.C (Kd.int .u64) W A (l.take (half l.length)).length (l.take (half l.length))) ∧ Drawn0 w w'
set_option maxHeartbeats 400000 in
theorem halves_calls (A : Option Addr) (c : Nat) (l : List Int) (w : World) (hc : l.length ≤ c) (h2 : 2 ≤ l.length) (hm : l.length ≤ 1152921504606846976) :
    Calls Try.prog 57 #[.slice A l.length c] w (HalvesPost l A c w) := by
  have HH := Aside0.mk (half_is l.length h2)
  obtain ⟨i0, hi0, _, hsz0, _⟩ := info_parts info22h
  obtain ⟨hA1, hA2, hA3⟩ := print_take_of (P := Try.prog) (Value.int .u64) 0 41 22 .i64 Try.underlying41 hi0 hsz0 A c l (half l.length : Int) (by omega) (by have := (half_range l.length h2).2; omega) hc
  obtain ⟨A', hB1, hB2, hB3⟩ := print_cut_int (P := Try.prog) (k := .u64) 41 22 Try.underlying41 hi0 hsz0 A c l (half l.length : Int) (by omega) (by have := (half_range l.length h2).2; omega) hc
  have HP := Aside0.mk (show HalvesPost l A c w (.returned (.tuple #[.slice A (l.take (half l.length)).length c, .slice A' (l.drop (half l.length)).length (c - half l.length)])) w from by
    rw [Int.toNat_natCast] at hA2 hA3 hB2 hB3
    exact ⟨A', _, rfl, hB3, hA3, fun W h => Kd.C_of_reads (h1 := fun _ => rfl) (hB2 W (Kd.reads_of_C h)), fun W h => Kd.C_of_reads (h1 := fun _ => rfl) (hA2 W (Kd.reads_of_C h)), Drawn0.refl _⟩)
  clear hA2 hA3 hB2 hB3 hi0 hsz0
  rw [Int.toNat_natCast] at hA1 hB1
  generalize hE : (l.take (half l.length)).length = n1 at hA1 HP
  generalize hE2 : (l.drop (half l.length)).length = n2 at hB1 HP
  clear hE hE2
  go_enter Try.func57, Try.ntmps57
  go_wp2
  go_loop [4] (fun v4 => ∃ j : Nat, v4 = .int .i64 ((2 ^ j : Nat) : Int) ∧ Aside0 (2 ^ j < l.length)) (fun v4 => l.length - (intOf v4).toNat)
  case atStart => exact ⟨0, rfl, ⟨by rw [Nat.pow_zero]; omega⟩⟩
  case round =>
    obtain ⟨j, rfl, HJ⟩ := hrel
    have hj := HJ.out
    have hj1 : 1 ≤ 2 ^ j := Nat.one_le_two_pow
    have HS := Aside0.mk (show 2 ^ (j + 1) = 2 ^ j * 2 from Nat.pow_succ _ _)
    have HK := Aside0.mk (fun (hc : l.length ≤ 2 * 2 ^ j) => (half_is l.length h2).unique ⟨⟨j, rfl⟩, hj, hc⟩)
    generalize 2 ^ j = k at hj hj1 HS HK
    clear HJ HH
    by_cases hlt : 2 * k < l.length
    · have h3 : decide ((2 : Int) * (k : Int) < (l.length : Int)) = true := by simp; omega
      go_wp2
      exact ⟨⟨j + 1, by rw [HS.out]; exact congrArg (Value.int .i64) (by omega), ⟨by rw [HS.out]; omega⟩⟩, by simp [intOf]; omega⟩
    · obtain rfl := (HK.out (by omega))
      clear HK
      go_wp2
      go_quiet (fail)
      go_wp2
      go_ret2
      obtain ⟨B, d, h1, h2, h3, h4, h5, _⟩ := HP.out
      exact ⟨B, d, h1, h2, h3, h4, h5, Drawn0.step (Drawn0.refl _) _⟩

/-! ### merkle_top: function 46 -/
def joinV (a b : Int) : Int := (digest_Join.f a b).getD 0
theorem joinV_f (a b : Int) : digest_Join.f a b = some (joinV a b) := rfl
def topN : Nat → List Int → Int
  | 0, _ => 0
  | n + 1, l => if l.length = 0 then 0 else if l.length = 1 then joinV 0 (rd l 0) else joinV (topN n (l.take (half l.length))) (topN n (l.drop (half l.length)))
def merkle_top.f (l : List Int) : Option Int := if l.length ≤ 1152921504606846976 then some (topN l.length l) else none
theorem topN_more : ∀ (n m : Nat) (l : List Int), l.length ≤ n → l.length ≤ m → topN n l = topN m l
  | 0, 0, _, _, _ => rfl
  | 0, m + 1, l, h, _ => by
    have e : l.length = 0 := by omega
    simp only [topN]
    rw [if_pos e]
  | n + 1, 0, l, _, h => by
    have e : l.length = 0 := by omega
    simp only [topN]
    rw [if_pos e]
  | n + 1, m + 1, l, h, g => by
    simp only [topN]
    by_cases h0 : l.length = 0
    · rw [if_pos h0, if_pos h0]
    by_cases h1 : l.length = 1
    · rw [if_neg h0, if_neg h0, if_pos h1, if_pos h1]
    have hr := half_range l.length (by omega)
    rw [if_neg h0, if_neg h0, if_neg h1, if_neg h1, topN_more n m _ (by rw [List.length_take]; omega) (by rw [List.length_take]; omega), topN_more n m _ (by rw [List.length_drop]; omega) (by rw [List.length_drop]; omega)]
set_option maxHeartbeats 400000 in
theorem top_calls (n : Nat) : ∀ (A : Option Addr) (c : Nat) (l : List Int) (w : World), l.length ≤ n → l.length ≤ 1152921504606846976 → Kd.C (Kd.int .u64) w A l.length l → l.length ≤ c →
    Calls Try.prog 46 #[.slice A l.length c] w fun e w' => e = .returned (.int .u64 (topN n l)) ∧ Drawn0 w w' := by
  induction n with
  | zero =>
    intro A c l w hn hm hr hc
    have e : (l.length == 0) = true := by simp; exact List.length_eq_zero_iff.1 (by omega)
    go_enter Try.func46, Try.ntmps46
    go_wp2
    go_ret
    exact ⟨rfl, Drawn0.refl _⟩
  | succ n ih =>
    intro A c l w hn hm hr hc
    by_cases h0 : l.length = 0
    · have e : (l.length == 0) = true := beq_iff_eq.2 h0
      have HT := Aside0.mk (show topN (n + 1) l = 0 by simp only [topN]; rw [if_pos h0])
      clear ih h0
      go_enter Try.func46, Try.ntmps46
      go_wp2
      go_ret
      exact ⟨by rw [HT.out]; rfl, Drawn0.refl _⟩
    have e0 : (l.length == 0) = false := beq_eq_false_iff_ne.2 h0
    by_cases h1 : l.length = 1
    · have e1 : (l.length == 1) = true := beq_iff_eq.2 h1
      have HT := Aside0.mk (show topN (n + 1) l = joinV 0 (rd l 0) by simp only [topN]; rw [if_neg h0, if_pos h1])
      obtain ⟨ad, rfl, hcell⟩ := Kd.at_int hr 0 (by omega) (by omega)
      have hc1 : w.cell? ad = some (.int .u64 (rd l 0)) := by rw [← hcell]; rfl
      have hpos : 0 < l.length := by omega
      clear ih h0 h1 hcell
      go_enter Try.func46, Try.ntmps46
      go_wp2_with (go_at_call 21; (with_reducible refine (digest_Join.calls _ _ _ _ (joinV_f _ _)).mono ?_); rintro e w' ⟨rfl, ⟨nd, rfl⟩⟩)
      go_ret
      exact ⟨by rw [HT.out]; rfl, Drawn0.step (Drawn0.refl _) _⟩
    · have e1 : (l.length == 1) = false := beq_eq_false_iff_ne.2 h1
      have hh := half_range l.length (by omega)
      have HT := Aside0.mk (show topN (n + 1) l = joinV (topN n (l.take (half l.length))) (topN n (l.drop (half l.length))) by simp only [topN]; rw [if_neg h0, if_neg h1])
      obtain ⟨lt, ht⟩ : ∃ x, x = l.take (half l.length) := ⟨_, rfl⟩
      obtain ⟨ld, hd⟩ : ∃ x, x = l.drop (half l.length) := ⟨_, rfl⟩
      have HA : Aside0 (Calls Try.prog 57 #[.slice A l.length c] w fun e w' => ∃ (A1 : Option Addr) (c1 : Nat), e = .returned (.tuple #[.slice A lt.length c, .slice A1 ld.length c1]) ∧ Aside0 (ld.length ≤ c1 ∧ lt.length ≤ c ∧ Kd.C (Kd.int .u64) w A1 ld.length ld ∧ Kd.C (Kd.int .u64) w A lt.length lt) ∧ Drawn0 w w') := by
        refine ⟨(halves_calls A c l w hc (by omega) hm).mono ?_⟩
        rintro e w' ⟨A1, c1, h1, h2, h3, h4, h5, h6⟩
        rw [← ht] at h1 h3 h5
        rw [← hd] at h1 h2 h4
        exact ⟨A1, c1, h1, ⟨h2, h3, h4 w hr, h5 w hr⟩, h6⟩
      have HL := Aside0.mk (show lt.length ≤ n ∧ lt.length ≤ 1152921504606846976 ∧ ld.length ≤ n ∧ ld.length ≤ 1152921504606846976 by rw [ht, hd, List.length_take, List.length_drop]; omega)
      rw [← ht, ← hd] at HT
      have IH := Aside0.mk ih
      clear ih h0 h1 hr hh hc hn hm ht hd
      go_enter Try.func46, Try.ntmps46
      go_wp2_with (first | (go_at_call 57; refine HA.out.mono ?_; rintro e w' ⟨A1, c1, rfl, HC, ⟨nd, rfl⟩⟩) | (go_at_call 46; (with_reducible refine (IH.out A c lt _ HL.out.1 HL.out.2.1 (Kd.C_drewN HC.out.2.2.2 _) HC.out.2.1).mono ?_); rintro e w' ⟨rfl, ⟨nd1, rfl⟩⟩) | (go_at_call 46; (with_reducible refine (IH.out _ _ ld _ HL.out.2.2.1 HL.out.2.2.2 (Kd.C_drewN HC.out.2.2.1 _) HC.out.1).mono ?_); rintro e w' ⟨rfl, ⟨nd2, rfl⟩⟩) | (go_at_call 21; (with_reducible refine (digest_Join.calls _ _ _ _ (joinV_f _ _)).mono ?_); rintro e w' ⟨rfl, ⟨nd3, rfl⟩⟩))
      go_ret
      exact ⟨by rw [HT.out]; rfl, Drawn0.step (Drawn0.refl _) _⟩
theorem merkle_top.calls (A0 : Option Addr) (c0 : Nat) (l0 : List Int) (r : Int) (w : World) (hr0 : Kd.C (Kd.int .u64) w A0 l0.length l0) (hc0 : l0.length ≤ c0) (h : merkle_top.f l0 = some r) :
    Calls Try.prog 46 #[.slice A0 l0.length c0] w fun e w' => e = .returned (.int .u64 r) ∧ Drawn0 w w' := by
  unfold merkle_top.f at h
  by_cases hm : l0.length ≤ 1152921504606846976
  · rw [if_pos hm] at h
    obtain rfl := Option.some.inj h
    exact top_calls l0.length A0 c0 l0 w (Nat.le_refl _) hm hr0 hc0
  · rw [if_neg hm] at h; cases h

/-! ### merkle_Root: function 33 -/
def merkle_Root.f (l0 : List Int) : Option (Int) := (merkle_top.f l0).bind fun t253 => ((digest_Join.f (IntKind.u64.wrap ((l0.length : Int))) t253).bind fun t254 => (some t254))
set_option maxHeartbeats 8000000 in
set_option maxRecDepth 100000 in
theorem merkle_Root.calls (A0 : Option Addr) (c0 : Nat) (l0 : List Int) (r : Int) (w : World) (hr0 : Kd.C (Kd.int .u64) w A0 l0.length l0) (hc0 : l0.length ≤ c0) (h : merkle_Root.f l0 = some r) :
    Calls Try.prog 33 #[.slice A0 l0.length c0] w fun e w' => e = .returned (.int .u64 r) ∧ Drawn0 w w' := by
  have HR0 := Aside0.mk hr0
  have HC0 := Aside0.mk hc0
  clear hr0 hc0
  have H : ((merkle_top.f l0).bind fun t253 => ((digest_Join.f (IntKind.u64.wrap ((l0.length : Int))) t253).bind fun t254 => (some t254))) = some r := h
  clear h
  replace H := Option.bind_eq_some_iff.mp H
  obtain ⟨t253, A20, H⟩ := H
  replace H : ((digest_Join.f (IntKind.u64.wrap ((l0.length : Int))) t253).bind fun t254 => (some t254)) = some r := H
  have A2 := Aside0.mk A20
  clear A20
  replace H := Option.bind_eq_some_iff.mp H
  obtain ⟨t254, A30, H⟩ := H
  replace H : (some t254) = some r := H
  have A3 := Aside0.mk A30
  clear A30
  obtain rfl := Option.some.inj H
  go_enter Try.func33, Try.ntmps33
  go_wp2_with (first | ((with_reducible refine gate_callee (f := 46) rfl ?_); refine goesL_ (some 7) rfl rfl Try.func46 (by kernel_rfl) rfl #[.slice A0 l0.length c0] rfl (by (try simp only [List.map_toArray, List.map_cons, List.map_nil]); first | done | rfl | (simp only [List.length_drop, List.length_take]; rfl)) ?_; (with_reducible refine (merkle_top.calls _ _ l0 t253 _ ?side1 ?side2 A2.out).mono ?_); (case side1 => repeat (first | exact HR0.out | (with_reducible refine Kd.C_alloc ?_ _) | (with_reducible refine Kd.C_drewN ?_ _) | (with_reducible refine Kd.C_drew ?_))); (case side2 => exact HC0.out); rintro e w' ⟨rfl, ⟨nd, rfl⟩⟩; refine ⟨_, rfl, ?_⟩) | ((with_reducible refine gate_callee (f := 21) rfl ?_); refine goesL_ (some 8) rfl rfl Try.func21 (by kernel_rfl) rfl #[.int .u64 (IntKind.u64.wrap ((l0.length : Int))), .int .u64 t253] rfl (by (try simp only [List.map_toArray, List.map_cons, List.map_nil]); first | done | rfl | (simp only [List.length_drop, List.length_take]; rfl)) ?_; (with_reducible refine (digest_Join.calls (IntKind.u64.wrap ((l0.length : Int))) t253 t254 _ A3.out).mono ?_); rintro e w' ⟨rfl, ⟨nd, rfl⟩⟩; refine ⟨_, rfl, ?_⟩))
  go_ret
  exact ⟨by first | rfl | (simp; done) | (simp [*]; done), by repeat (first | exact Drawn0.refl _ | apply Drawn0.step)⟩

/-! ### merkle_place: function 54 -/
def merkle_place.f (a0 : Int) (a1 : Int) : Option (Int) := if a0 > 4096 then (some 2) else (if a1 < 0 then (some 1) else (if a1 ≥ a0 then (some 1) else (some 0)))
set_option maxHeartbeats 8000000 in
set_option maxRecDepth 100000 in
theorem merkle_place.calls (a0 : Int) (a1 : Int) (r : Int) (w : World) (h : merkle_place.f a0 a1 = some r) :
    Calls Try.prog 54 #[.int .i64 a0, .int .i64 a1] w fun e w' => e = .returned (.int .i64 r) ∧ Drawn0 w w' := by
  have H : (if a0 > 4096 then (some 2) else (if a1 < 0 then (some 1) else (if a1 ≥ a0 then (some 1) else (some 0)))) = some r := h
  clear h
  by_cases c3 : a0 > 4096
  · rw [if_pos c3] at H
    have c3b0 : decide (4096 < a0) = true := decide_eq_true c3
    clear c3
    obtain rfl := Option.some.inj H
    go_enter Try.func54, Try.ntmps54
    go_wp2
    go_ret
    exact ⟨by first | rfl | (simp; done) | (simp [*]; done), by repeat (first | exact Drawn0.refl _ | apply Drawn0.step)⟩
  · rw [if_neg c3] at H
    have c3b0 : decide (4096 < a0) = false := decide_eq_false c3
    clear c3
    by_cases c4 : a1 < 0
    · rw [if_pos c4] at H
      have c4b0 : decide (a1 < 0) = true := decide_eq_true c4
      clear c4
      obtain rfl := Option.some.inj H
      go_enter Try.func54, Try.ntmps54
      go_wp2
      go_ret
      exact ⟨by first | rfl | (simp; done) | (simp [*]; done), by repeat (first | exact Drawn0.refl _ | apply Drawn0.step)⟩
    · rw [if_neg c4] at H
      have c4b0 : decide (a1 < 0) = false := decide_eq_false c4
      clear c4
      by_cases c5 : a1 ≥ a0
      · rw [if_pos c5] at H
        have c5b0 : decide (a0 ≤ a1) = true := decide_eq_true c5
        clear c5
        obtain rfl := Option.some.inj H
        go_enter Try.func54, Try.ntmps54
        go_wp2
        go_ret
        exact ⟨by first | rfl | (simp; done) | (simp [*]; done), by repeat (first | exact Drawn0.refl _ | apply Drawn0.step)⟩
      · rw [if_neg c5] at H
        have c5b0 : decide (a0 ≤ a1) = false := decide_eq_false c5
        clear c5
        obtain rfl := Option.some.inj H
        go_enter Try.func54, Try.ntmps54
        go_wp2
        go_ret
        exact ⟨by first | rfl | (simp; done) | (simp [*]; done), by repeat (first | exact Drawn0.refl _ | apply Drawn0.step)⟩

end Go.Proofs.Ytikicibbbeofnaa.D
