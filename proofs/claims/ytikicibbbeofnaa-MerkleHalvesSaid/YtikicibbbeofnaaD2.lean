-- Written by wip/hprint.py (this session's) with the kit's printer and contracts of our own. Not trusted: Lean checks it.
import Derived.Test.YtikicibbbeofnaaD0
import Derived.Test.YtikicibbbeofnaaD1
namespace Go.Proofs.Ytikicibbbeofnaa.D
open Go.RowKit Go.Proofs.YtikicibbbeofnaaW.PrintWords Go.Proofs.YtikicibbbeofnaaW.PrintLast Go.Proofs.YtikicibbbeofnaaW.PrintMore
attribute [local go_sem] max2_int min2_int max_two min_two max_three min_three max_four min_four   -- for this text's walks alone
set_option linter.unusedVariables false
set_option linter.unusedSimpArgs false

attribute [local go_sem high] eqA30
/-! ### digest_inverse: function 42 -/
def digest_inverse.l0 : Nat → Int → Int → Int → Option (Int)
  | 0, _, _, _ => none
  | k + 1, x0, x3, x5 => if x5 < 5 then (digest_inverse.l0 k x0 (IntKind.u64.wrap (x3 * (IntKind.u64.wrap (2 - (IntKind.u64.wrap (x0 * x3)))))) (wrap64 (x5 + 1))) else (some x3)
def digest_inverse.f (k : Nat) (a0 : Int) : Option (Int) := digest_inverse.l0 k a0 a0 0
theorem digest_inverse.mono_l : ∀ k, (∀ y0 y1 y2, LeO (digest_inverse.l0 k y0 y1 y2) (digest_inverse.l0 (k + 1) y0 y1 y2))
  | 0 => fun _ _ _ r h => by simp [digest_inverse.l0] at h
  | k + 1 => by
    have ih0 := digest_inverse.mono_l k
    · intro y0 y1 y2
      unfold digest_inverse.l0
      repeat' first
      | (with_reducible exact ih0 _ _ _)
      | (with_reducible exact LeO.refl _)
      | (with_reducible exact LeO.none _)
      | (with_reducible refine LeO.ite ?_ ?_)
      | (with_reducible refine LeO.bind ?_ (fun _ => ?_))
      | exact ih0 _ _ _
      | exact LeO.none _
      | refine LeO.ite ?_ ?_
      | refine LeO.bind ?_ (fun _ => ?_)
theorem digest_inverse.mono : ∀ a0 k, LeO (digest_inverse.f k a0) (digest_inverse.f (k + 1) a0) := by
  intro a0 k
  have ih0 := digest_inverse.mono_l k
  unfold digest_inverse.f
  repeat' first
      | (with_reducible exact ih0 _ _ _)
      | (with_reducible exact LeO.refl _)
      | (with_reducible exact LeO.none _)
      | (with_reducible refine LeO.ite ?_ ?_)
      | (with_reducible refine LeO.bind ?_ (fun _ => ?_))
      | exact ih0 _ _ _
      | exact LeO.none _
      | refine LeO.ite ?_ ?_
      | refine LeO.bind ?_ (fun _ => ?_)
set_option maxHeartbeats 8000000 in
set_option maxRecDepth 100000 in
theorem digest_inverse.calls (k : Nat) (a0 : Int) (r : Int) (w : World) (h : digest_inverse.f k a0 = some r) :
    Calls Try.prog 42 #[.int .u64 a0] w fun e w' => e = .returned (.int .u64 r) ∧ Drawn0 w w' := by
  have H : (digest_inverse.l0 k a0 a0 0) = some r := h
  clear h
  have H' := Aside0.mk H
  clear H
  go_enter Try.func42, Try.ntmps42
  go_wp2
  go_loopg [3, 5] k (fun kq v3 v5 w' => ∃ (x3_1 : Int) (x5_1 : Int), v3 = .int .u64 x3_1 ∧ v5 = .int .i64 x5_1 ∧ Aside0 (digest_inverse.l0 kq a0 x3_1 x5_1 = some r) ∧ Aside0 (kq ≤ k) ∧ Drawn0 w w')
  case atStart => exact ⟨(a0), (0), (by first | rfl | (simp; done) | (simp [*]; done)), (by first | rfl | (simp; done) | (simp [*]; done)), H', ⟨Nat.le_refl _⟩, by repeat (first | exact Drawn0.refl _ | apply Drawn0.step)⟩
  case round =>
    clear H'
    obtain ⟨x3_1, x5_1, rfl, rfl, HA, HK1, ⟨m1, rfl⟩⟩ := hrel
    cases gk with
    | zero => exact absurd HA.out (by simp [digest_inverse.l0])
    | succ k1 =>
      have H := HA.out
      clear HA
      simp only [digest_inverse.l0] at H
      by_cases c2 : x5_1 < 5
      · rw [if_pos c2] at H
        have c2b0 : decide (x5_1 < 5) = true := decide_eq_true c2
        clear c2
        have H' := Aside0.mk H
        clear H
        go_wp2
        go_roundg k1
        case measure => have := HK1.out; omega
        case rel => exact ⟨(IntKind.u64.wrap (x3_1 * (IntKind.u64.wrap (2 - (IntKind.u64.wrap (a0 * x3_1)))))), (wrap64 (x5_1 + 1)), (by first | rfl | (simp; done) | (simp [*]; done)), (by first | rfl | (simp; done) | (simp [*]; done)), H', ⟨by have := HK1.out; omega⟩, by repeat (first | exact Drawn0.refl _ | apply Drawn0.step)⟩
      · rw [if_neg c2] at H
        have c2b0 : decide (x5_1 < 5) = false := decide_eq_false c2
        clear c2
        obtain rfl := Option.some.inj H
        go_wp2
        go_ret
        exact ⟨by first | rfl | (simp; done) | (simp [*]; done), by repeat (first | exact Drawn0.refl _ | apply Drawn0.step)⟩

/-! ### digest_Back: function 17 -/
def digest_Back.f (k : Nat) (a0 : Int) (a1 : Int) : Option (Int) := (digest_inverse.f k 13787848793156543929).bind fun t101 => ((digest_inverse.f k 11400714819323198485).bind fun t102 => (some (Go.bits .xor .u64 (IntKind.u64.wrap ((Go.bits .xor .u64 (IntKind.u64.wrap ((Go.bits .xor .u64 a1 (a1 / 4294967296)) * t101)) (Go.bits .xor .u64 ((IntKind.u64.wrap ((Go.bits .xor .u64 a1 (a1 / 4294967296)) * t101)) / 536870912) ((IntKind.u64.wrap ((Go.bits .xor .u64 a1 (a1 / 4294967296)) * t101)) / 288230376151711744))) * t102)) a0)))
theorem digest_Back.mono : ∀ a0 a1 k, LeO (digest_Back.f k a0 a1) (digest_Back.f (k + 1) a0 a1) := by
  intro a0 a1 k
  unfold digest_Back.f
  repeat' first
      | (with_reducible exact digest_inverse.mono _ _)
      | (with_reducible exact LeO.refl _)
      | (with_reducible exact LeO.none _)
      | (with_reducible refine LeO.ite ?_ ?_)
      | (with_reducible refine LeO.bind ?_ (fun _ => ?_))
      | exact digest_inverse.mono _ _
      | exact LeO.none _
      | refine LeO.ite ?_ ?_
      | refine LeO.bind ?_ (fun _ => ?_)
set_option maxHeartbeats 8000000 in
set_option maxRecDepth 100000 in
theorem digest_Back.calls (k : Nat) (a0 : Int) (a1 : Int) (r : Int) (w : World) (h : digest_Back.f k a0 a1 = some r) :
    Calls Try.prog 17 #[.int .u64 a0, .int .u64 a1] w fun e w' => e = .returned (.int .u64 r) ∧ Drawn0 w w' := by
  have H : ((digest_inverse.f k 13787848793156543929).bind fun t101 => ((digest_inverse.f k 11400714819323198485).bind fun t102 => (some (Go.bits .xor .u64 (IntKind.u64.wrap ((Go.bits .xor .u64 (IntKind.u64.wrap ((Go.bits .xor .u64 a1 (a1 / 4294967296)) * t101)) (Go.bits .xor .u64 ((IntKind.u64.wrap ((Go.bits .xor .u64 a1 (a1 / 4294967296)) * t101)) / 536870912) ((IntKind.u64.wrap ((Go.bits .xor .u64 a1 (a1 / 4294967296)) * t101)) / 288230376151711744))) * t102)) a0)))) = some r := h
  clear h
  replace H := Option.bind_eq_some_iff.mp H
  obtain ⟨t101, A30, H⟩ := H
  replace H : ((digest_inverse.f k 11400714819323198485).bind fun t102 => (some (Go.bits .xor .u64 (IntKind.u64.wrap ((Go.bits .xor .u64 (IntKind.u64.wrap ((Go.bits .xor .u64 a1 (a1 / 4294967296)) * t101)) (Go.bits .xor .u64 ((IntKind.u64.wrap ((Go.bits .xor .u64 a1 (a1 / 4294967296)) * t101)) / 536870912) ((IntKind.u64.wrap ((Go.bits .xor .u64 a1 (a1 / 4294967296)) * t101)) / 288230376151711744))) * t102)) a0))) = some r := H
  have A3 := Aside0.mk A30
  clear A30
  replace H := Option.bind_eq_some_iff.mp H
  obtain ⟨t102, A40, H⟩ := H
  replace H : (some (Go.bits .xor .u64 (IntKind.u64.wrap ((Go.bits .xor .u64 (IntKind.u64.wrap ((Go.bits .xor .u64 a1 (a1 / 4294967296)) * t101)) (Go.bits .xor .u64 ((IntKind.u64.wrap ((Go.bits .xor .u64 a1 (a1 / 4294967296)) * t101)) / 536870912) ((IntKind.u64.wrap ((Go.bits .xor .u64 a1 (a1 / 4294967296)) * t101)) / 288230376151711744))) * t102)) a0)) = some r := H
  have A4 := Aside0.mk A40
  clear A40
  obtain rfl := Option.some.inj H
  go_enter Try.func17, Try.ntmps17
  go_wp2_with (first | ((with_reducible refine gate_callee (f := 42) rfl ?_); refine goesL_ (some 9) rfl rfl Try.func42 (by kernel_rfl) rfl #[.int .u64 13787848793156543929] rfl (by (try simp only [List.map_toArray, List.map_cons, List.map_nil]); first | done | rfl | (simp only [List.length_drop, List.length_take]; rfl)) ?_; (with_reducible refine (digest_inverse.calls k 13787848793156543929 t101 _ A3.out).mono ?_); rintro e w' ⟨rfl, ⟨nd, rfl⟩⟩; refine ⟨_, rfl, ?_⟩) | ((with_reducible refine gate_callee (f := 42) rfl ?_); refine goesL_ (some 19) rfl rfl Try.func42 (by kernel_rfl) rfl #[.int .u64 11400714819323198485] rfl (by (try simp only [List.map_toArray, List.map_cons, List.map_nil]); first | done | rfl | (simp only [List.length_drop, List.length_take]; rfl)) ?_; (with_reducible refine (digest_inverse.calls k 11400714819323198485 t102 _ A4.out).mono ?_); rintro e w' ⟨rfl, ⟨nd, rfl⟩⟩; refine ⟨_, rfl, ?_⟩))
  go_ret
  exact ⟨by first | rfl | (simp; done) | (simp [*]; done), by repeat (first | exact Drawn0.refl _ | apply Drawn0.step)⟩

/-! ### digest_Step: function 18 -/
def digest_Step.f (a0 : Int) (a1 : Int) : Option (Int) := some (Go.bits .xor .u64 (IntKind.u64.wrap ((Go.bits .xor .u64 (IntKind.u64.wrap ((Go.bits .xor .u64 a0 a1) * 11400714819323198485)) ((IntKind.u64.wrap ((Go.bits .xor .u64 a0 a1) * 11400714819323198485)) / 536870912)) * 13787848793156543929)) ((IntKind.u64.wrap ((Go.bits .xor .u64 (IntKind.u64.wrap ((Go.bits .xor .u64 a0 a1) * 11400714819323198485)) ((IntKind.u64.wrap ((Go.bits .xor .u64 a0 a1) * 11400714819323198485)) / 536870912)) * 13787848793156543929)) / 4294967296))
set_option maxHeartbeats 8000000 in
set_option maxRecDepth 100000 in
theorem digest_Step.calls (a0 : Int) (a1 : Int) (r : Int) (w : World) (h : digest_Step.f a0 a1 = some r) :
    Calls Try.prog 18 #[.int .u64 a0, .int .u64 a1] w fun e w' => e = .returned (.int .u64 r) ∧ Drawn0 w w' := by
  have H : (some (Go.bits .xor .u64 (IntKind.u64.wrap ((Go.bits .xor .u64 (IntKind.u64.wrap ((Go.bits .xor .u64 a0 a1) * 11400714819323198485)) ((IntKind.u64.wrap ((Go.bits .xor .u64 a0 a1) * 11400714819323198485)) / 536870912)) * 13787848793156543929)) ((IntKind.u64.wrap ((Go.bits .xor .u64 (IntKind.u64.wrap ((Go.bits .xor .u64 a0 a1) * 11400714819323198485)) ((IntKind.u64.wrap ((Go.bits .xor .u64 a0 a1) * 11400714819323198485)) / 536870912)) * 13787848793156543929)) / 4294967296))) = some r := h
  clear h
  obtain rfl := Option.some.inj H
  go_enter Try.func18, Try.ntmps18
  go_wp2
  go_ret
  exact ⟨by first | rfl | (simp; done) | (simp [*]; done), by repeat (first | exact Drawn0.refl _ | apply Drawn0.step)⟩

/-! ### digest_Text: function 19 -/
def hexi (a0 : Int) (i : Nat) : Int := Go.bits .and .u64 (a0 / 2 ^ (60 - 4 * i)) 15
def hexc : ByteArray := ⟨#[48, 49, 50, 51, 52, 53, 54, 55, 56, 57, 97, 98, 99, 100, 101, 102]⟩
def hexn (a0 : Int) (k : Nat) : List Int := ((List.range k).map fun i => bt hexc (hexi a0 i)) ++ (List.replicate (16 - k) 0)
def hexrow (a0 : Int) (k : Nat) : Array Value := ((hexn a0 k).map fun i => Value.int .u8 i).toArray
theorem hexn_length (a0 : Int) (k : Nat) (h : k ≤ 16) : (hexn a0 k).length = 16 := by unfold hexn; simp; omega
theorem hexn_at (a0 : Int) (k : Nat) (h : k < 16) : (hexn a0 k)[k]? = some 0 := by
  unfold hexn
  rw [List.getElem?_append_right (by simp)]
  simp [List.getElem?_replicate]; omega
theorem hexn_set (a0 : Int) (k : Nat) (h : k < 16) : (hexn a0 k).set k (bt hexc (hexi a0 k)) = hexn a0 (k + 1) := by
  unfold hexn
  rw [List.set_append_right _ _ (by simp)]
  obtain ⟨m, hm⟩ : ∃ m, 16 - k = m + 1 := ⟨16 - k - 1, by omega⟩
  have hm2 : 16 - (k + 1) = m := by omega
  simp only [List.length_map, List.length_range, Nat.sub_self, hm, hm2, List.replicate_succ, List.set_cons_zero, List.range_succ, List.map_append, List.map_cons, List.map_nil, List.append_assoc, List.singleton_append]
theorem hexrow_set (a0 : Int) (k : Nat) (h : k < 16) (v : Int) (hv : v = bt hexc (hexi a0 k)) : (hexrow a0 k).setIfInBounds k (Value.int .u8 v) = hexrow a0 (k + 1) := by
  subst hv
  unfold hexrow
  rw [List.setIfInBounds_toArray, ← hexn_set a0 k h, List.map_set]
theorem hexrow_at (a0 : Int) (k : Nat) (h : k < 16) : (hexrow a0 k)[k]? = some (.int .u8 0) := by
  unfold hexrow
  rw [List.getElem?_toArray, List.getElem?_map, hexn_at a0 k h]; rfl
theorem hexi_range (a0 : Int) (i : Nat) : 0 ≤ Go.bits .and .u64 (a0 / 2 ^ (60 - 4 * i)) 15 ∧ Go.bits .and .u64 (a0 / 2 ^ (60 - 4 * i)) 15 < 16 := by
  have h : Go.bits .and .u64 (a0 / 2 ^ (60 - 4 * i)) 15 = (((BitVec.ofInt 64 (a0 / 2 ^ (60 - 4 * i)) &&& BitVec.ofInt 64 15).toNat : Nat) : Int) := by
    show IntKind.u64.wrap (((BitVec.ofInt 64 (a0 / 2 ^ (60 - 4 * i)) &&& BitVec.ofInt 64 15).toNat : Nat) : Int) = _
    have hl := (BitVec.ofInt 64 (a0 / 2 ^ (60 - 4 * i)) &&& BitVec.ofInt 64 15).isLt
    simp only [IntKind.wrap, IntKind.bits, IntKind.signed, Bool.false_and]
    rw [if_neg (by simp)]
    omega
  have h2 : (BitVec.ofInt 64 (a0 / 2 ^ (60 - 4 * i)) &&& BitVec.ofInt 64 15).toNat ≤ 15 := by
    rw [BitVec.toNat_and]
    exact Nat.le_trans Nat.and_le_right (by decide)
  rw [h]; omega
def hext (a0 : Int) : ByteArray := strOfNums (hexn a0 16)
def digest_Text.f (a0 : Int) : Option ByteArray := some (hext a0)
set_option maxHeartbeats 400000 in
theorem digest_Text.calls (a0 : Int) (r : ByteArray) (w : World) (h : digest_Text.f a0 = some r) :
    Calls Try.prog 19 #[.int .u64 a0] w fun e w' => e = .returned (.string r) ∧ Below w.heap.size w w' := by
  obtain rfl := Option.some.inj h
  clear h
  go_enter Try.func19, Try.ntmps19
  go_wp2
  go_loopw [5] (fun v5 wr => ∃ k : Nat, k ≤ 16 ∧ v5 = .int .i64 k ∧ wr = w.alloc (.cells (hexrow a0 k) 70)) (fun v5 _ => 16 - (intOf v5).toNat)
  case atStart => exact ⟨0, by omega, rfl, rfl⟩
  case round =>
    obtain ⟨k, hk, rfl, rfl⟩ := hrel
    by_cases hlt : k < 16
    · have hc := hexrow_at a0 k hlt
      have hd := hexi_range a0 k
      go_wp2
      refine ⟨⟨k + 1, by omega, by go_num, ?_⟩, by simp [intOf]; omega⟩
      refine congrArg (fun c => w.alloc (.cells c 70)) ?_
      exact hexrow_set a0 k hlt _ (bt_at hexc (hexi a0 k) _)
    · obtain rfl : k = 16 := by omega
      have hcv : (convert 32 9 (.slice (some ⟨w.heap.size, 0, none⟩) 16 16)).run Try.prog (w.alloc (.cells (hexrow a0 16) 70)) = .ok (.string (hext a0)) (w.alloc (.cells (hexrow a0 16) 70)) := by
        refine Go.run_convert_bytes_arg _ 32 5 Try.underlying32 Try.underlying5 _ 0 16 16 (hexn a0 16) (hexn_length a0 16 (by omega)) (fun i hi => ?_) 9 Try.underlying9
        have hb : (w.alloc (.cells (hexrow a0 16) 70)).heap[w.heap.size]? = some (.cells (hexrow a0 16) 70 (0, 0)) := by simp [World.alloc, -World.alloc_eq]
        rw [blk_cell hb, hexrow, List.getElem?_toArray, List.getElem?_map, Nat.zero_add, List.getElem?_eq_getElem (by rw [hexn_length a0 16 (by omega)]; exact hi), List.getD_eq_getElem?_getD, List.getElem?_eq_getElem (by rw [hexn_length a0 16 (by omega)]; exact hi)]
        rfl
      go_wp2
      go_ret
      exact ⟨rfl, (Below.refl _ _).alloc (Nat.le_refl _) _⟩

/-! ### digest_value: function 56 -/
def digest_value.j0 : Nat → Int → Bool → Option (Int × Bool)
  | 0, _, _ => none
  | k + 1, x0, x4 => if x4 = true then (some ((x0 - 48) % 256, true)) else (if 97 ≤ x0 then (if x0 ≤ 102 then (some (((x0 - 97) % 256) + 10, true)) else (some (0, false))) else (some (0, false)))
def digest_value.f (k : Nat) (a0 : Int) : Option (Int × Bool) := if 48 ≤ a0 then (digest_value.j0 k a0 (decide (a0 ≤ 57))) else (digest_value.j0 k a0 false)
theorem digest_value.mono_l : ∀ k, (∀ y0 y1, LeO (digest_value.j0 k y0 y1) (digest_value.j0 (k + 1) y0 y1))
  | 0 => fun _ _ r h => by simp [digest_value.j0] at h
  | k + 1 => by
    have ih0 := digest_value.mono_l k
    · intro y0 y1
      unfold digest_value.j0
      repeat' first
      | (with_reducible exact ih0 _ _)
      | (with_reducible exact LeO.refl _)
      | (with_reducible exact LeO.none _)
      | (with_reducible refine LeO.ite ?_ ?_)
      | (with_reducible refine LeO.bind ?_ (fun _ => ?_))
      | exact ih0 _ _
      | exact LeO.none _
      | refine LeO.ite ?_ ?_
      | refine LeO.bind ?_ (fun _ => ?_)
theorem digest_value.mono : ∀ a0 k, LeO (digest_value.f k a0) (digest_value.f (k + 1) a0) := by
  intro a0 k
  have ih0 := digest_value.mono_l k
  unfold digest_value.f
  repeat' first
      | (with_reducible exact ih0 _ _)
      | (with_reducible exact LeO.refl _)
      | (with_reducible exact LeO.none _)
      | (with_reducible refine LeO.ite ?_ ?_)
      | (with_reducible refine LeO.bind ?_ (fun _ => ?_))
      | exact ih0 _ _
      | exact LeO.none _
      | refine LeO.ite ?_ ?_
      | refine LeO.bind ?_ (fun _ => ?_)
set_option maxHeartbeats 8000000 in
set_option maxRecDepth 100000 in
theorem digest_value.calls (k : Nat) (a0 : Int) (r1 : Int) (r2 : Bool) (w : World) (h : digest_value.f k a0 = some (r1, r2)) :
    Calls Try.prog 56 #[.int .u8 a0] w fun e w' => e = .returned (.tuple #[.int .u64 r1, .bool r2]) ∧ Drawn0 w w' := by
  have H : (if 48 ≤ a0 then (digest_value.j0 k a0 (decide (a0 ≤ 57))) else (digest_value.j0 k a0 false)) = some (r1, r2) := h
  clear h
  have HC2 := Aside0.mk H
  clear H
  go_enter Try.func56, Try.ntmps56
  go_upto_region 1 with (fail)
  go_cut [4] (fun v4 wc => ∃ (kq : Nat) (x4_1 : Bool), v4 = .bool x4_1 ∧ Aside0 (digest_value.j0 kq a0 x4_1 = some (r1, r2)) ∧ Aside0 (kq ≤ k) ∧ Drawn0 w wc)
  case first =>
    have H := HC2.out
    clear HC2
    by_cases c3 : 48 ≤ a0
    · rw [if_pos c3] at H
      have c3b0 : decide (48 ≤ a0) = true := decide_eq_true c3
      clear c3
      (first | rw [c3b0] | (simp only [i64_w, i32_w]; rw [c3b0]) | skip)
      have H' := Aside0.mk H
      clear H
      go_wp2
      go_meet
      case rel => exact ⟨_, (decide (a0 ≤ 57)), (by first | rfl | (simp; done) | (simp [*]; done)), H', ⟨by first | omega | exact Nat.le_refl _⟩, by repeat (first | exact Drawn0.refl _ | apply Drawn0.step)⟩
    · rw [if_neg c3] at H
      have c3b0 : decide (48 ≤ a0) = false := decide_eq_false c3
      clear c3
      (first | rw [c3b0] | (simp only [i64_w, i32_w]; rw [c3b0]) | skip)
      have H' := Aside0.mk H
      clear H
      go_wp2
      go_meet
      case rel => exact ⟨_, (false), (by first | rfl | (simp; done) | (simp [*]; done)), H', ⟨by first | omega | exact Nat.le_refl _⟩, by repeat (first | exact Drawn0.refl _ | apply Drawn0.step)⟩
  case rest =>
    clear HC2
    try clear p2
    try clear c3
    try clear c3b0
    obtain ⟨kq, x4_1, rfl, HA, HJ1, ⟨mc1, rfl⟩⟩ := hcut
    cases kq with
    | zero => exact absurd HA.out (by simp [digest_value.j0])
    | succ kj1 =>
      have H := HA.out
      clear HA
      simp only [digest_value.j0] at H
      by_cases c4 : x4_1 = true
      · subst c4
        have H1 : (some ((a0 - 48) % 256, true)) = some (r1, r2) := by rw [if_pos rfl] at H; exact H
        clear H
        have H := H1
        clear H1
        simp only [Option.some.injEq, Prod.mk.injEq] at H
        obtain ⟨rfl, rfl⟩ := H
        go_wp2
        go_ret2
        exact ⟨by first | rfl | (simp; done) | (simp [*]; done), by repeat (first | exact Drawn0.refl _ | apply Drawn0.step)⟩
      · replace c4 := Bool.eq_false_iff.mpr c4
        subst c4
        have H1 : (if 97 ≤ a0 then (if a0 ≤ 102 then (some (((a0 - 97) % 256) + 10, true)) else (some (0, false))) else (some (0, false))) = some (r1, r2) := by rw [if_neg (show ¬ (false = true) by decide)] at H; exact H
        clear H
        have H := H1
        clear H1
        by_cases c5 : 97 ≤ a0
        · rw [if_pos c5] at H
          have c5b0 : decide (97 ≤ a0) = true := decide_eq_true c5
          clear c5
          by_cases c6 : a0 ≤ 102
          · rw [if_pos c6] at H
            have c6b0 : decide (a0 ≤ 102) = true := decide_eq_true c6
            clear c6
            simp only [Option.some.injEq, Prod.mk.injEq] at H
            obtain ⟨rfl, rfl⟩ := H
            go_wp2
            go_ret2
            exact ⟨by first | rfl | (simp; done) | (simp [*]; done), by repeat (first | exact Drawn0.refl _ | apply Drawn0.step)⟩
          · rw [if_neg c6] at H
            have c6b0 : decide (a0 ≤ 102) = false := decide_eq_false c6
            clear c6
            simp only [Option.some.injEq, Prod.mk.injEq] at H
            obtain ⟨rfl, rfl⟩ := H
            go_wp2
            go_ret2
            exact ⟨by first | rfl | (simp; done) | (simp [*]; done), by repeat (first | exact Drawn0.refl _ | apply Drawn0.step)⟩
        · rw [if_neg c5] at H
          have c5b0 : decide (97 ≤ a0) = false := decide_eq_false c5
          clear c5
          simp only [Option.some.injEq, Prod.mk.injEq] at H
          obtain ⟨rfl, rfl⟩ := H
          go_wp2
          go_ret2
          exact ⟨by first | rfl | (simp; done) | (simp [*]; done), by repeat (first | exact Drawn0.refl _ | apply Drawn0.step)⟩

/-! ### digest_Parse: function 43 -/
def digest_Parse.l0 : Nat → ByteArray → Int → Int → Int → Option (Int × Int)
  | 0, _, _, _, _ => none
  | k + 1, x0, x4, x12, x13 => if x13 < x12 then (if 0 ≤ x13 then (if x13 < (x0.size : Int) then ((digest_value.f k (bt x0 x13)).bind fun bt103 => (if bt103.2 = true then (digest_Parse.l0 k x0 (Go.bits .or .u64 (IntKind.u64.wrap (x4 * 16)) bt103.1) x12 (wrap64 (x13 + 1))) else (some (0, 3)))) else (none)) else (none)) else (some (x4, 0))
def digest_Parse.f (k : Nat) (a0 : ByteArray) : Option (Int × Int) := if (a0.size : Int) = 16 then (digest_Parse.l0 k a0 0 (a0.size : Int) 0) else (some (0, 3))
theorem digest_Parse.mono_l : ∀ k, (∀ y0 y1 y2 y3, LeO (digest_Parse.l0 k y0 y1 y2 y3) (digest_Parse.l0 (k + 1) y0 y1 y2 y3))
  | 0 => fun _ _ _ _ r h => by simp [digest_Parse.l0] at h
  | k + 1 => by
    have ih0 := digest_Parse.mono_l k
    · intro y0 y1 y2 y3
      unfold digest_Parse.l0
      repeat' first
      | (with_reducible exact ih0 _ _ _ _)
      | (with_reducible exact digest_value.mono _ _)
      | (with_reducible exact LeO.refl _)
      | (with_reducible exact LeO.none _)
      | (with_reducible refine LeO.ite ?_ ?_)
      | (with_reducible refine LeO.bind ?_ (fun _ => ?_))
      | exact ih0 _ _ _ _
      | exact digest_value.mono _ _
      | exact LeO.none _
      | refine LeO.ite ?_ ?_
      | refine LeO.bind ?_ (fun _ => ?_)
theorem digest_Parse.mono : ∀ a0 k, LeO (digest_Parse.f k a0) (digest_Parse.f (k + 1) a0) := by
  intro a0 k
  have ih0 := digest_Parse.mono_l k
  unfold digest_Parse.f
  repeat' first
      | (with_reducible exact ih0 _ _ _ _)
      | (with_reducible exact digest_value.mono _ _)
      | (with_reducible exact LeO.refl _)
      | (with_reducible exact LeO.none _)
      | (with_reducible refine LeO.ite ?_ ?_)
      | (with_reducible refine LeO.bind ?_ (fun _ => ?_))
      | exact ih0 _ _ _ _
      | exact digest_value.mono _ _
      | exact LeO.none _
      | refine LeO.ite ?_ ?_
      | refine LeO.bind ?_ (fun _ => ?_)
set_option maxHeartbeats 8000000 in
set_option maxRecDepth 100000 in
theorem digest_Parse.calls (k : Nat) (a0 : ByteArray) (r1 : Int) (r2 : Int) (w : World) (h : digest_Parse.f k a0 = some (r1, r2)) :
    Calls Try.prog 43 #[.string a0] w fun e w' => e = .returned (.tuple #[.int .u64 r1, .int .i64 r2]) ∧ Drawn0 w w' := by
  have H : (if (a0.size : Int) = 16 then (digest_Parse.l0 k a0 0 (a0.size : Int) 0) else (some (0, 3))) = some (r1, r2) := h
  clear h
  by_cases c2 : (a0.size : Int) = 16
  · rw [if_pos c2] at H
    have c2b0 : ((a0.size : Int) == 16) = true := beq_iff_eq.mpr c2
    have c2b1 : ((a0.size : Int) != 16) = false := bne_eq_false_iff_eq.mpr c2
    clear c2
    have H' := Aside0.mk H
    clear H
    go_enter Try.func43, Try.ntmps43
    go_wp2
    go_loopg [4, 13] k (fun kq v4 v13 w' => ∃ (x4_1 : Int) (x13_1 : Int), v4 = .int .u64 x4_1 ∧ v13 = .int .i64 x13_1 ∧ Aside0 (digest_Parse.l0 kq a0 x4_1 (a0.size : Int) x13_1 = some (r1, r2)) ∧ Aside0 (kq ≤ k) ∧ Drawn0 w w')
    case atStart => exact ⟨(0), (0), (by first | rfl | (simp; done) | (simp [*]; done)), (by first | rfl | (simp; done) | (simp [*]; done)), H', ⟨Nat.le_refl _⟩, by repeat (first | exact Drawn0.refl _ | apply Drawn0.step)⟩
    case round =>
      clear H'
      try clear c2
      try clear c2b0
      try clear c2b1
      try clear p2
      obtain ⟨x4_1, x13_1, rfl, rfl, HA, HK1, ⟨m1, rfl⟩⟩ := hrel
      cases gk with
      | zero => exact absurd HA.out (by simp [digest_Parse.l0])
      | succ k1 =>
        have H := HA.out
        clear HA
        simp only [digest_Parse.l0] at H
        by_cases c3 : x13_1 < (a0.size : Int)
        · rw [if_pos c3] at H
          have c3b0 : decide (x13_1 < (a0.size : Int)) = true := decide_eq_true c3
          clear c3
          by_cases c4 : 0 ≤ x13_1
          · rw [if_pos c4] at H
            have c4b0 : decide (0 ≤ x13_1) = true := decide_eq_true c4
            clear c4
            by_cases c5 : x13_1 < (a0.size : Int)
            · rw [if_pos c5] at H
              have c5b0 : decide (x13_1 < (a0.size : Int)) = true := decide_eq_true c5
              clear c5
              replace H := Option.bind_eq_some_iff.mp H
              obtain ⟨⟨t103, t104⟩, A70, H⟩ := H
              replace H : (if t104 = true then (digest_Parse.l0 k1 a0 (Go.bits .or .u64 (IntKind.u64.wrap (x4_1 * 16)) t103) (a0.size : Int) (wrap64 (x13_1 + 1))) else (some (0, 3))) = some (r1, r2) := H
              have A7 := Aside0.mk A70
              clear A70
              by_cases c8 : t104 = true
              · subst c8
                have H1 : (digest_Parse.l0 k1 a0 (Go.bits .or .u64 (IntKind.u64.wrap (x4_1 * 16)) t103) (a0.size : Int) (wrap64 (x13_1 + 1))) = some (r1, r2) := by rw [if_pos rfl] at H; exact H
                clear H
                have H := H1
                clear H1
                have H' := Aside0.mk H
                clear H
                have p6 : 0 ≤ (x13_1 : Int) := of_decide_eq_true (by first | (with_reducible assumption) | assumption)
                have q6 : x13_1 < (a0.size : Int) := of_decide_eq_true (by first | (with_reducible assumption) | assumption)
                have hx6 := bt_at a0 x13_1
                replace p6 := eq_true p6
                replace q6 := eq_true q6
                go_wp2_with (first | ((with_reducible refine gate_callee (f := 56) rfl ?_); refine goesL_ (some 20) rfl rfl Try.func56 (by kernel_rfl) rfl #[.int .u8 (bt a0 x13_1)] rfl (by (try simp only [List.map_toArray, List.map_cons, List.map_nil]); first | done | rfl | (simp only [List.length_drop, List.length_take]; rfl)) ?_; (with_reducible refine (digest_value.calls k1 (bt a0 x13_1) t103 true _ A7.out).mono ?_); rintro e w' ⟨rfl, ⟨nd, rfl⟩⟩; refine ⟨_, rfl, ?_⟩))
                go_roundg k1
                case measure => have := HK1.out; omega
                case rel => exact ⟨(Go.bits .or .u64 (IntKind.u64.wrap (x4_1 * 16)) t103), (wrap64 (x13_1 + 1)), (by first | rfl | (simp; done) | (simp [*]; done)), (by first | rfl | (simp; done) | (simp [*]; done)), H', ⟨by have := HK1.out; omega⟩, by repeat (first | exact Drawn0.refl _ | apply Drawn0.step)⟩
              · replace c8 := Bool.eq_false_iff.mpr c8
                subst c8
                have H1 : (some (0, 3)) = some (r1, r2) := by rw [if_neg (show ¬ (false = true) by decide)] at H; exact H
                clear H
                have H := H1
                clear H1
                simp only [Option.some.injEq, Prod.mk.injEq] at H
                obtain ⟨rfl, rfl⟩ := H
                have p6 : 0 ≤ (x13_1 : Int) := of_decide_eq_true (by first | (with_reducible assumption) | assumption)
                have q6 : x13_1 < (a0.size : Int) := of_decide_eq_true (by first | (with_reducible assumption) | assumption)
                have hx6 := bt_at a0 x13_1
                replace p6 := eq_true p6
                replace q6 := eq_true q6
                go_wp2_with (first | ((with_reducible refine gate_callee (f := 56) rfl ?_); refine goesL_ (some 20) rfl rfl Try.func56 (by kernel_rfl) rfl #[.int .u8 (bt a0 x13_1)] rfl (by (try simp only [List.map_toArray, List.map_cons, List.map_nil]); first | done | rfl | (simp only [List.length_drop, List.length_take]; rfl)) ?_; (with_reducible refine (digest_value.calls k1 (bt a0 x13_1) t103 false _ A7.out).mono ?_); rintro e w' ⟨rfl, ⟨nd, rfl⟩⟩; refine ⟨_, rfl, ?_⟩))
                go_ret2
                exact ⟨by first | rfl | (simp; done) | (simp [*]; done), by repeat (first | exact Drawn0.refl _ | apply Drawn0.step)⟩
            · rw [if_neg c5] at H
              exact absurd H (by simp)
          · rw [if_neg c4] at H
            exact absurd H (by simp)
        · rw [if_neg c3] at H
          have c3b0 : decide (x13_1 < (a0.size : Int)) = false := decide_eq_false c3
          clear c3
          simp only [Option.some.injEq, Prod.mk.injEq] at H
          obtain ⟨rfl, rfl⟩ := H
          go_wp2
          go_ret2
          exact ⟨by first | rfl | (simp; done) | (simp [*]; done), by repeat (first | exact Drawn0.refl _ | apply Drawn0.step)⟩
  · rw [if_neg c2] at H
    have c2b0 : ((a0.size : Int) == 16) = false := beq_eq_false_iff_ne.mpr c2
    have c2b1 : ((a0.size : Int) != 16) = true := bne_iff_ne.mpr c2
    simp only [Option.some.injEq, Prod.mk.injEq] at H
    obtain ⟨rfl, rfl⟩ := H
    go_enter Try.func43, Try.ntmps43
    go_wp2
    go_ret2
    exact ⟨by first | rfl | (simp; done) | (simp [*]; done), by repeat (first | exact Drawn0.refl _ | apply Drawn0.step)⟩

/-! ### parolelaw03_parsed: function 20 -/
def parolelaw03_parsed.f (k : Nat) (a0 : ByteArray) : Option (Int × Int) := (digest_Parse.f k a0).bind fun bt106 => (some (bt106.1, bt106.2))
theorem parolelaw03_parsed.mono : ∀ a0 k, LeO (parolelaw03_parsed.f k a0) (parolelaw03_parsed.f (k + 1) a0) := by
  intro a0 k
  unfold parolelaw03_parsed.f
  repeat' first
      | (with_reducible exact digest_Parse.mono _ _)
      | (with_reducible exact LeO.refl _)
      | (with_reducible exact LeO.none _)
      | (with_reducible refine LeO.ite ?_ ?_)
      | (with_reducible refine LeO.bind ?_ (fun _ => ?_))
      | exact digest_Parse.mono _ _
      | exact LeO.none _
      | refine LeO.ite ?_ ?_
      | refine LeO.bind ?_ (fun _ => ?_)
set_option maxHeartbeats 8000000 in
set_option maxRecDepth 100000 in
theorem parolelaw03_parsed.calls (k : Nat) (a0 : ByteArray) (r1 : Int) (r2 : Int) (w : World) (h : parolelaw03_parsed.f k a0 = some (r1, r2)) :
    Calls Try.prog 20 #[.string a0] w fun e w' => e = .returned (.agg #[.int .u64 r1, .int .i64 r2]) ∧ Below w.heap.size w w' := by
  have hu30 := Try.underlying30
  have HB := Aside0.mk (Below.refl w.heap.size w)
  have H : ((digest_Parse.f k a0).bind fun bt106 => (some (bt106.1, bt106.2))) = some (r1, r2) := h
  clear h
  replace H := Option.bind_eq_some_iff.mp H
  obtain ⟨⟨t106, t107⟩, A20, H⟩ := H
  replace H : (some (t106, t107)) = some (r1, r2) := H
  have A2 := Aside0.mk A20
  clear A20
  simp only [Option.some.injEq, Prod.mk.injEq] at H
  obtain ⟨rfl, rfl⟩ := H
  go_enter Try.func20, Try.ntmps20
  go_wp2_with (first | ((with_reducible refine gate_dst (N := 2) rfl ?_); refine box_event ?hg (N := 2) ?hd (cs := #[.int .u64 0, .int .i64 0]) (t := 30) ?hr ?_; (case hd => rfl); (case hg => rfl); (case hr => first | (go_simp; done) | (go_simp; rfl)); intro gb105 hg w3 hbox hb; have n0_ := Aside0.mk (below_step (by repeat (first | (with_reducible first | exact HB.out | apply below_alloc | apply pw_below_drewN | apply below_drew1) | exact HB.out)) hb); have n1_ := Aside0.mk (hbox); have n2_ := Aside0.mk ((by rw [hg]; exact (below_size (by repeat (first | (with_reducible first | exact HB.out | apply below_alloc | apply pw_below_drewN | apply below_drew1) | exact HB.out))) : w.heap.size ≤ gb105)); have n3_ := Aside0.mk ((by rw [hg]; exact (below_size (by repeat (first | (with_reducible first | exact HB.out | apply below_alloc | apply pw_below_drewN | apply below_drew1) | exact HB.out))) : w.heap.size ≤ gb105)); clear HB; have HB := n0_; have BK105 := n1_; have GW105 := n2_; have GE105 := n3_; clear n0_ n1_ n2_ n3_; clear hb hbox hg) | ((with_reducible refine gate_callee (f := 43) rfl ?_); refine goesL_ (some 7) rfl rfl Try.func43 (by kernel_rfl) rfl #[.string a0] rfl (by (try simp only [List.map_toArray, List.map_cons, List.map_nil]); first | done | rfl | (simp only [List.length_drop, List.length_take]; rfl)) ?_; (with_reducible refine (digest_Parse.calls k a0 t106 t107 _ A2.out).mono ?_); rintro e w' ⟨rfl, ⟨nd, rfl⟩⟩; refine ⟨_, rfl, ?_⟩; (try (rw [drewN_self w3]; generalize hq_ : World.drewN w3 _ = w3; have n0_ : Aside0 (w3.heap[gb105]? = some (.cells #[.int .u64 0, .int .i64 0] 30 (0, 0))) := ⟨by rw [← hq_]; exact (by (with_reducible repeat (first | refine blk_drewN ?_ _ | refine blk_drew ?_ | refine blk_alloc ?_ _)); exact BK105.out)⟩; have n1_ : Aside0 (Below w.heap.size w w3) := ⟨by rw [← hq_]; exact (by repeat (first | (with_reducible first | exact HB.out | apply below_alloc | apply pw_below_drewN | apply below_drew1 | refine below_set ?_ GE105.out) | exact HB.out))⟩; clear BK105 HB hq_; have BK105 := n0_; have HB := n1_; clear n0_ n1_)); have hcz4_0 : w3.cell? ⟨gb105, 0, none⟩ = some (.int .u64 0) := (blk_cell BK105.out 0).trans rfl; have hcz4_1 : w3.cell? ⟨gb105, 1, none⟩ = some (.int .i64 0) := (blk_cell BK105.out 1).trans rfl; have hfz4_0 := blk_frozen BK105.out 0; have hfz4_1 := blk_frozen BK105.out 1))
  refine bodyPost_ret (results_cell_row rfl _ _ gb105 30 #[.int .u64 t106, .int .i64 t107] (0, 0) _ rfl (by (with_reducible repeat (first | refine blk_drewN ?_ _ | refine blk_drew ?_ | refine blk_alloc ?_ _)); refine blk_put (cs := #[.int .u64 t106, .int .i64 0]) ?_ 1 _ rfl; (with_reducible repeat (first | refine blk_drewN ?_ _ | refine blk_drew ?_ | refine blk_alloc ?_ _)); refine blk_put (cs := #[.int .u64 0, .int .i64 0]) ?_ 0 _ rfl; (with_reducible repeat (first | refine blk_drewN ?_ _ | refine blk_drew ?_ | refine blk_alloc ?_ _)); exact BK105.out) Try.underlying30 rfl (by kernel_rfl)) rfl ?_
  exact ⟨by first | rfl | (simp [errW_none, errW_some] <;> rfl) | (simp [*, errW_none, errW_some] <;> rfl), by repeat (first | (with_reducible first | exact HB.out | apply below_alloc | apply pw_below_drewN | apply below_drew1 | refine below_set ?_ GE105.out) | exact HB.out)⟩

/-! ### parolelaw03_examples: function 16 -/
def parolelaw03_examples.f (k : Nat)  : Option (Bool) := (digest_Step.f 7 7).bind fun t108 => (if t108 = 0 then ((digest_Back.f k 7 0).bind fun t109 => (if t109 = 7 then ((digest_Step.f 0 1).bind fun t110 => (if t110 = 0 then (none) else ((digest_Text.f 255).bind fun t111 => (if t111.toList = ([48, 48, 48, 48, 48, 48, 48, 48, 48, 48, 48, 48, 48, 48, 102, 102] : List UInt8) then ((parolelaw03_parsed.f k (⟨#[48, 48, 48, 48, 48, 48, 48, 48, 48, 48, 48, 48, 48, 48, 102, 102]⟩ : ByteArray)).bind fun bt112 => (if (bt112.1 == 255 && (bt112.2 == 0)) = true then ((parolelaw03_parsed.f k (⟨#[102, 102]⟩ : ByteArray)).bind fun bt114 => (if bt114.2 = 3 then ((parolelaw03_parsed.f k (⟨#[]⟩ : ByteArray)).bind fun bt116 => (some (bt116.2 == 3))) else (none))) else (none))) else (none))))) else (none))) else (none))
theorem parolelaw03_examples.mono : ∀ k, LeO (parolelaw03_examples.f k ) (parolelaw03_examples.f (k + 1) ) := by
  intro  k
  unfold parolelaw03_examples.f
  repeat' first
      | (with_reducible exact digest_Back.mono _ _ _)
      | (with_reducible exact parolelaw03_parsed.mono _ _)
      | (with_reducible exact LeO.refl _)
      | (with_reducible exact LeO.none _)
      | (with_reducible refine LeO.ite ?_ ?_)
      | (with_reducible refine LeO.bind ?_ (fun _ => ?_))
      | exact digest_Back.mono _ _ _
      | exact parolelaw03_parsed.mono _ _
      | exact LeO.none _
      | refine LeO.ite ?_ ?_
      | refine LeO.bind ?_ (fun _ => ?_)
set_option maxHeartbeats 8000000 in
set_option maxRecDepth 100000 in
theorem parolelaw03_examples.calls (k : Nat)  (r : Bool) (w : World) (h : parolelaw03_examples.f k  = some r) :
    Calls Try.prog 16 #[] w fun e w' => e = .returned (.bool r) ∧ Below w.heap.size w w' := by
  have hu30 := Try.underlying30
  have HB := Aside0.mk (Below.refl w.heap.size w)
  have H : ((digest_Step.f 7 7).bind fun t108 => (if t108 = 0 then ((digest_Back.f k 7 0).bind fun t109 => (if t109 = 7 then ((digest_Step.f 0 1).bind fun t110 => (if t110 = 0 then (none) else ((digest_Text.f 255).bind fun t111 => (if t111.toList = ([48, 48, 48, 48, 48, 48, 48, 48, 48, 48, 48, 48, 48, 48, 102, 102] : List UInt8) then ((parolelaw03_parsed.f k (⟨#[48, 48, 48, 48, 48, 48, 48, 48, 48, 48, 48, 48, 48, 48, 102, 102]⟩ : ByteArray)).bind fun bt112 => (if (bt112.1 == 255 && (bt112.2 == 0)) = true then ((parolelaw03_parsed.f k (⟨#[102, 102]⟩ : ByteArray)).bind fun bt114 => (if bt114.2 = 3 then ((parolelaw03_parsed.f k (⟨#[]⟩ : ByteArray)).bind fun bt116 => (some (bt116.2 == 3))) else (none))) else (none))) else (none))))) else (none))) else (none))) = some r := h
  clear h
  replace H := Option.bind_eq_some_iff.mp H
  obtain ⟨t108, A10, H⟩ := H
  replace H : (if t108 = 0 then ((digest_Back.f k 7 0).bind fun t109 => (if t109 = 7 then ((digest_Step.f 0 1).bind fun t110 => (if t110 = 0 then (none) else ((digest_Text.f 255).bind fun t111 => (if t111.toList = ([48, 48, 48, 48, 48, 48, 48, 48, 48, 48, 48, 48, 48, 48, 102, 102] : List UInt8) then ((parolelaw03_parsed.f k (⟨#[48, 48, 48, 48, 48, 48, 48, 48, 48, 48, 48, 48, 48, 48, 102, 102]⟩ : ByteArray)).bind fun bt112 => (if (bt112.1 == 255 && (bt112.2 == 0)) = true then ((parolelaw03_parsed.f k (⟨#[102, 102]⟩ : ByteArray)).bind fun bt114 => (if bt114.2 = 3 then ((parolelaw03_parsed.f k (⟨#[]⟩ : ByteArray)).bind fun bt116 => (some (bt116.2 == 3))) else (none))) else (none))) else (none))))) else (none))) else (none)) = some r := H
  have A1 := Aside0.mk A10
  clear A10
  by_cases c2 : t108 = 0
  · rw [if_pos c2] at H
    have c2b0 : (t108 == 0) = true := beq_iff_eq.mpr c2
    have c2b1 : (t108 != 0) = false := bne_eq_false_iff_eq.mpr c2
    clear c2
    replace H := Option.bind_eq_some_iff.mp H
    obtain ⟨t109, A30, H⟩ := H
    replace H : (if t109 = 7 then ((digest_Step.f 0 1).bind fun t110 => (if t110 = 0 then (none) else ((digest_Text.f 255).bind fun t111 => (if t111.toList = ([48, 48, 48, 48, 48, 48, 48, 48, 48, 48, 48, 48, 48, 48, 102, 102] : List UInt8) then ((parolelaw03_parsed.f k (⟨#[48, 48, 48, 48, 48, 48, 48, 48, 48, 48, 48, 48, 48, 48, 102, 102]⟩ : ByteArray)).bind fun bt112 => (if (bt112.1 == 255 && (bt112.2 == 0)) = true then ((parolelaw03_parsed.f k (⟨#[102, 102]⟩ : ByteArray)).bind fun bt114 => (if bt114.2 = 3 then ((parolelaw03_parsed.f k (⟨#[]⟩ : ByteArray)).bind fun bt116 => (some (bt116.2 == 3))) else (none))) else (none))) else (none))))) else (none)) = some r := H
    have A3 := Aside0.mk A30
    clear A30
    by_cases c4 : t109 = 7
    · rw [if_pos c4] at H
      have c4b0 : (t109 == 7) = true := beq_iff_eq.mpr c4
      have c4b1 : (t109 != 7) = false := bne_eq_false_iff_eq.mpr c4
      clear c4
      replace H := Option.bind_eq_some_iff.mp H
      obtain ⟨t110, A50, H⟩ := H
      replace H : (if t110 = 0 then (none) else ((digest_Text.f 255).bind fun t111 => (if t111.toList = ([48, 48, 48, 48, 48, 48, 48, 48, 48, 48, 48, 48, 48, 48, 102, 102] : List UInt8) then ((parolelaw03_parsed.f k (⟨#[48, 48, 48, 48, 48, 48, 48, 48, 48, 48, 48, 48, 48, 48, 102, 102]⟩ : ByteArray)).bind fun bt112 => (if (bt112.1 == 255 && (bt112.2 == 0)) = true then ((parolelaw03_parsed.f k (⟨#[102, 102]⟩ : ByteArray)).bind fun bt114 => (if bt114.2 = 3 then ((parolelaw03_parsed.f k (⟨#[]⟩ : ByteArray)).bind fun bt116 => (some (bt116.2 == 3))) else (none))) else (none))) else (none)))) = some r := H
      have A5 := Aside0.mk A50
      clear A50
      by_cases c6 : t110 = 0
      · rw [if_pos c6] at H
        exact absurd H (by simp)
      · rw [if_neg c6] at H
        have c6b0 : (t110 == 0) = false := beq_eq_false_iff_ne.mpr c6
        have c6b1 : (t110 != 0) = true := bne_iff_ne.mpr c6
        replace H := Option.bind_eq_some_iff.mp H
        obtain ⟨t111, A70, H⟩ := H
        replace H : (if t111.toList = ([48, 48, 48, 48, 48, 48, 48, 48, 48, 48, 48, 48, 48, 48, 102, 102] : List UInt8) then ((parolelaw03_parsed.f k (⟨#[48, 48, 48, 48, 48, 48, 48, 48, 48, 48, 48, 48, 48, 48, 102, 102]⟩ : ByteArray)).bind fun bt112 => (if (bt112.1 == 255 && (bt112.2 == 0)) = true then ((parolelaw03_parsed.f k (⟨#[102, 102]⟩ : ByteArray)).bind fun bt114 => (if bt114.2 = 3 then ((parolelaw03_parsed.f k (⟨#[]⟩ : ByteArray)).bind fun bt116 => (some (bt116.2 == 3))) else (none))) else (none))) else (none)) = some r := H
        have A7 := Aside0.mk A70
        clear A70
        by_cases c8 : t111.toList = ([48, 48, 48, 48, 48, 48, 48, 48, 48, 48, 48, 48, 48, 48, 102, 102] : List UInt8)
        · rw [if_pos c8] at H
          have c8b0 : (t111.toList == ([48, 48, 48, 48, 48, 48, 48, 48, 48, 48, 48, 48, 48, 48, 102, 102] : List UInt8)) = true := beq_iff_eq.mpr c8
          have c8b1 : (t111.toList != ([48, 48, 48, 48, 48, 48, 48, 48, 48, 48, 48, 48, 48, 48, 102, 102] : List UInt8)) = false := bne_eq_false_iff_eq.mpr c8
          clear c8
          replace H := Option.bind_eq_some_iff.mp H
          obtain ⟨⟨t112, t113⟩, A90, H⟩ := H
          replace H : (if (t112 == 255 && (t113 == 0)) = true then ((parolelaw03_parsed.f k (⟨#[102, 102]⟩ : ByteArray)).bind fun bt114 => (if bt114.2 = 3 then ((parolelaw03_parsed.f k (⟨#[]⟩ : ByteArray)).bind fun bt116 => (some (bt116.2 == 3))) else (none))) else (none)) = some r := H
          have A9 := Aside0.mk A90
          clear A90
          by_cases c10 : (t112 == 255 && (t113 == 0)) = true
          · rw [if_pos c10] at H
            have c10b0 : (t112 == 255 && (t113 == 0)) = true := c10
            (try (have c10b1 : decide (t112 = 255 && (t113 == 0)) = true := by simpa using c10))
            (try (have c10b2 : (t112 == 255 && (t113 == 0)) = true := by simpa using c10))
            clear c10
            replace H := Option.bind_eq_some_iff.mp H
            obtain ⟨⟨t114, t115⟩, A110, H⟩ := H
            replace H : (if t115 = 3 then ((parolelaw03_parsed.f k (⟨#[]⟩ : ByteArray)).bind fun bt116 => (some (bt116.2 == 3))) else (none)) = some r := H
            have A11 := Aside0.mk A110
            clear A110
            by_cases c12 : t115 = 3
            · rw [if_pos c12] at H
              have c12b0 : (t115 == 3) = true := beq_iff_eq.mpr c12
              have c12b1 : (t115 != 3) = false := bne_eq_false_iff_eq.mpr c12
              clear c12
              replace H := Option.bind_eq_some_iff.mp H
              obtain ⟨⟨t116, t117⟩, A130, H⟩ := H
              replace H : (some (t117 == 3)) = some r := H
              have A13 := Aside0.mk A130
              clear A130
              obtain rfl := Option.some.inj H
              go_enter Try.func16, Try.ntmps16
              go_wp2_with (first | ((with_reducible refine gate_callee (f := 18) rfl ?_); refine goesL_ (some 1) rfl rfl Try.func18 (by kernel_rfl) rfl #[.int .u64 7, .int .u64 7] rfl (by (try simp only [List.map_toArray, List.map_cons, List.map_nil]); first | done | rfl | (simp only [List.length_drop, List.length_take]; rfl)) ?_; (with_reducible refine (digest_Step.calls 7 7 t108 _ A1.out).mono ?_); rintro e w' ⟨rfl, ⟨nd, rfl⟩⟩; refine ⟨_, rfl, ?_⟩) | (go_at_call 17; (with_reducible refine (digest_Back.calls k 7 0 t109 _ A3.out).mono ?_); rintro e w' ⟨rfl, ⟨nd, rfl⟩⟩) | (go_at_call 18; (with_reducible refine (digest_Step.calls 0 1 t110 _ A5.out).mono ?_); rintro e w' ⟨rfl, ⟨nd, rfl⟩⟩) | (go_at_call 19; (with_reducible refine (digest_Text.calls 255 t111 _ A7.out).mono ?_); rintro e w14 ⟨rfl, hb⟩; have n0_ := Aside0.mk (below_step (by repeat (first | (with_reducible first | exact HB.out | apply below_alloc | apply pw_below_drewN | apply below_drew1) | exact HB.out)) hb); clear HB; have HB := n0_; clear n0_; (try clear hb); (try clear hb2); (try clear hk); (try clear hi)) | (go_at_call 20; (with_reducible refine (parolelaw03_parsed.calls k (⟨#[48, 48, 48, 48, 48, 48, 48, 48, 48, 48, 48, 48, 48, 48, 102, 102]⟩ : ByteArray) t112 t113 _ A9.out).mono ?_); rintro e w15 ⟨rfl, hb⟩; have n0_ := Aside0.mk (below_step (by repeat (first | (with_reducible first | exact HB.out | apply below_alloc | apply pw_below_drewN | apply below_drew1) | exact HB.out)) hb); clear HB; have HB := n0_; clear n0_; (try clear hb); (try clear hb2); (try clear hk); (try clear hi)) | (go_at_call 20; (with_reducible refine (parolelaw03_parsed.calls k (⟨#[102, 102]⟩ : ByteArray) t114 t115 _ A11.out).mono ?_); rintro e w16 ⟨rfl, hb⟩; have n0_ := Aside0.mk (below_step (by repeat (first | (with_reducible first | exact HB.out | apply below_alloc | apply pw_below_drewN | apply below_drew1) | exact HB.out)) hb); clear HB; have HB := n0_; clear n0_; (try clear hb); (try clear hb2); (try clear hk); (try clear hi)) | (go_at_call 20; (with_reducible refine (parolelaw03_parsed.calls k (⟨#[]⟩ : ByteArray) t116 t117 _ A13.out).mono ?_); rintro e w17 ⟨rfl, hb⟩; have n0_ := Aside0.mk (below_step (by repeat (first | (with_reducible first | exact HB.out | apply below_alloc | apply pw_below_drewN | apply below_drew1) | exact HB.out)) hb); clear HB; have HB := n0_; clear n0_; (try clear hb); (try clear hb2); (try clear hk); (try clear hi)))
              go_ret
              exact ⟨by first | rfl | (simp [errW_none, errW_some] <;> rfl) | (simp [*, errW_none, errW_some] <;> rfl), by repeat (first | (with_reducible first | exact HB.out | apply below_alloc | apply pw_below_drewN | apply below_drew1) | exact HB.out)⟩
            · rw [if_neg c12] at H
              exact absurd H (by simp)
          · rw [if_neg c10] at H
            exact absurd H (by simp)
        · rw [if_neg c8] at H
          exact absurd H (by simp)
    · rw [if_neg c4] at H
      exact absurd H (by simp)
  · rw [if_neg c2] at H
    exact absurd H (by simp)

/-! ### parolelaw03_DigestSteps: function 3 -/
def parolelaw03_DigestSteps.j0 : Nat → Int → Int → Int → Bool → Bool → Option (Bool)
  | 0, _, _, _, _, _ => none
  | k + 1, x0, x1, x2, x7, x26 => if x26 = true then (none) else ((digest_Step.f x0 x1).bind fun t123 => ((digest_Step.f x0 x2).bind fun t124 => (if ((t123 == t124) == (x1 == x2)) = true then ((digest_Step.f x1 x0).bind fun t125 => ((digest_Step.f x2 x0).bind fun t126 => (if ((t125 == t126) == (x1 == x2)) = true then (some x7) else (none)))) else (none))))
def parolelaw03_DigestSteps.f (k : Nat) (a0 : Int) (a1 : Int) (a2 : Int) : Option (Bool) := (parolelaw03_examples.f k).bind fun t118 => (if t118 = true then ((digest_Step.f a0 a2).bind fun t119 => ((digest_Back.f k a0 t119).bind fun t120 => (if t120 = a2 then ((digest_Back.f k a0 a2).bind fun t121 => ((digest_Step.f a0 t121).bind fun t122 => (parolelaw03_DigestSteps.j0 k a0 a1 a2 t118 (t122 != a2)))) else (parolelaw03_DigestSteps.j0 k a0 a1 a2 t118 true)))) else (none))
theorem parolelaw03_DigestSteps.mono_l : ∀ k, (∀ y0 y1 y2 y3 y4, LeO (parolelaw03_DigestSteps.j0 k y0 y1 y2 y3 y4) (parolelaw03_DigestSteps.j0 (k + 1) y0 y1 y2 y3 y4))
  | 0 => fun _ _ _ _ _ r h => by simp [parolelaw03_DigestSteps.j0] at h
  | k + 1 => by
    have ih0 := parolelaw03_DigestSteps.mono_l k
    · intro y0 y1 y2 y3 y4
      unfold parolelaw03_DigestSteps.j0
      repeat' first
      | (with_reducible exact ih0 _ _ _ _ _)
      | (with_reducible exact digest_Back.mono _ _ _)
      | (with_reducible exact parolelaw03_examples.mono _)
      | (with_reducible exact LeO.refl _)
      | (with_reducible exact LeO.none _)
      | (with_reducible refine LeO.ite ?_ ?_)
      | (with_reducible refine LeO.bind ?_ (fun _ => ?_))
      | exact ih0 _ _ _ _ _
      | exact digest_Back.mono _ _ _
      | exact parolelaw03_examples.mono _
      | exact LeO.none _
      | refine LeO.ite ?_ ?_
      | refine LeO.bind ?_ (fun _ => ?_)
theorem parolelaw03_DigestSteps.mono : ∀ a0 a1 a2 k, LeO (parolelaw03_DigestSteps.f k a0 a1 a2) (parolelaw03_DigestSteps.f (k + 1) a0 a1 a2) := by
  intro a0 a1 a2 k
  have ih0 := parolelaw03_DigestSteps.mono_l k
  unfold parolelaw03_DigestSteps.f
  repeat' first
      | (with_reducible exact ih0 _ _ _ _ _)
      | (with_reducible exact digest_Back.mono _ _ _)
      | (with_reducible exact parolelaw03_examples.mono _)
      | (with_reducible exact LeO.refl _)
      | (with_reducible exact LeO.none _)
      | (with_reducible refine LeO.ite ?_ ?_)
      | (with_reducible refine LeO.bind ?_ (fun _ => ?_))
      | exact ih0 _ _ _ _ _
      | exact digest_Back.mono _ _ _
      | exact parolelaw03_examples.mono _
      | exact LeO.none _
      | refine LeO.ite ?_ ?_
      | refine LeO.bind ?_ (fun _ => ?_)
set_option maxHeartbeats 8000000 in
set_option maxRecDepth 100000 in
theorem parolelaw03_DigestSteps.calls (k : Nat) (a0 : Int) (a1 : Int) (a2 : Int) (r : Bool) (w : World) (h : parolelaw03_DigestSteps.f k a0 a1 a2 = some r) :
    Calls Try.prog 3 #[.int .u64 a0, .int .u64 a1, .int .u64 a2] w fun e w' => e = .returned (.bool r) ∧ Below w.heap.size w w' := by
  have HB := Aside0.mk (Below.refl w.heap.size w)
  have H : ((parolelaw03_examples.f k).bind fun t118 => (if t118 = true then ((digest_Step.f a0 a2).bind fun t119 => ((digest_Back.f k a0 t119).bind fun t120 => (if t120 = a2 then ((digest_Back.f k a0 a2).bind fun t121 => ((digest_Step.f a0 t121).bind fun t122 => (parolelaw03_DigestSteps.j0 k a0 a1 a2 t118 (t122 != a2)))) else (parolelaw03_DigestSteps.j0 k a0 a1 a2 t118 true)))) else (none))) = some r := h
  clear h
  replace H := Option.bind_eq_some_iff.mp H
  obtain ⟨t118, A40, H⟩ := H
  replace H : (if t118 = true then ((digest_Step.f a0 a2).bind fun t119 => ((digest_Back.f k a0 t119).bind fun t120 => (if t120 = a2 then ((digest_Back.f k a0 a2).bind fun t121 => ((digest_Step.f a0 t121).bind fun t122 => (parolelaw03_DigestSteps.j0 k a0 a1 a2 t118 (t122 != a2)))) else (parolelaw03_DigestSteps.j0 k a0 a1 a2 t118 true)))) else (none)) = some r := H
  have A4 := Aside0.mk A40
  clear A40
  by_cases c5 : t118 = true
  · subst c5
    have H1 : ((digest_Step.f a0 a2).bind fun t119 => ((digest_Back.f k a0 t119).bind fun t120 => (if t120 = a2 then ((digest_Back.f k a0 a2).bind fun t121 => ((digest_Step.f a0 t121).bind fun t122 => (parolelaw03_DigestSteps.j0 k a0 a1 a2 true (t122 != a2)))) else (parolelaw03_DigestSteps.j0 k a0 a1 a2 true true)))) = some r := by rw [if_pos rfl] at H; exact H
    clear H
    have H := H1
    clear H1
    have HC6 := Aside0.mk H
    clear H
    go_enter Try.func3, Try.ntmps3
    go_upto_region 4 with (first | ((with_reducible refine gate_callee (f := 16) rfl ?_); refine goesL_ (some 8) rfl rfl Try.func16 (by kernel_rfl) rfl #[] rfl (by (try simp only [List.map_toArray, List.map_cons, List.map_nil]); first | done | rfl | (simp only [List.length_drop, List.length_take]; rfl)) ?_; (with_reducible refine (parolelaw03_examples.calls k  true _ A4.out).mono ?_); rintro e w7 ⟨rfl, hb⟩; refine ⟨_, rfl, ?_⟩; have n0_ := Aside0.mk (below_step (by repeat (first | (with_reducible first | exact HB.out | apply below_alloc | apply pw_below_drewN | apply below_drew1) | exact HB.out)) hb); clear HB; have HB := n0_; clear n0_; (try clear hb); (try clear hb2); (try clear hk); (try clear hi)))
    (try simp only [Act.put, List.setIfInBounds_toArray, List.set_cons_zero, List.set_cons_succ])
    go_cut [26] (fun v26 wc => ∃ (kq : Nat) (x26_5 : Bool), v26 = .bool x26_5 ∧ Aside0 (parolelaw03_DigestSteps.j0 kq a0 a1 a2 true x26_5 = some r) ∧ Aside0 (kq ≤ k) ∧ Aside0 (Below w.heap.size w wc))
    case first =>
      have H := HC6.out
      clear HC6
      replace H := Option.bind_eq_some_iff.mp H
      obtain ⟨t119, A80, H⟩ := H
      replace H : ((digest_Back.f k a0 t119).bind fun t120 => (if t120 = a2 then ((digest_Back.f k a0 a2).bind fun t121 => ((digest_Step.f a0 t121).bind fun t122 => (parolelaw03_DigestSteps.j0 k a0 a1 a2 true (t122 != a2)))) else (parolelaw03_DigestSteps.j0 k a0 a1 a2 true true))) = some r := H
      have A8 := Aside0.mk A80
      clear A80
      replace H := Option.bind_eq_some_iff.mp H
      obtain ⟨t120, A90, H⟩ := H
      replace H : (if t120 = a2 then ((digest_Back.f k a0 a2).bind fun t121 => ((digest_Step.f a0 t121).bind fun t122 => (parolelaw03_DigestSteps.j0 k a0 a1 a2 true (t122 != a2)))) else (parolelaw03_DigestSteps.j0 k a0 a1 a2 true true)) = some r := H
      have A9 := Aside0.mk A90
      clear A90
      by_cases c10 : t120 = a2
      · rw [if_pos c10] at H
        have c10b0 : (t120 == a2) = true := beq_iff_eq.mpr c10
        have c10b1 : (t120 != a2) = false := bne_eq_false_iff_eq.mpr c10
        clear c10
        (first | rw [c10b0] | (simp only [i64_w, i32_w]; rw [c10b0]) | skip)
        replace H := Option.bind_eq_some_iff.mp H
        obtain ⟨t121, A110, H⟩ := H
        replace H : ((digest_Step.f a0 t121).bind fun t122 => (parolelaw03_DigestSteps.j0 k a0 a1 a2 true (t122 != a2))) = some r := H
        have A11 := Aside0.mk A110
        clear A110
        replace H := Option.bind_eq_some_iff.mp H
        obtain ⟨t122, A120, H⟩ := H
        replace H : (parolelaw03_DigestSteps.j0 k a0 a1 a2 true (t122 != a2)) = some r := H
        have A12 := Aside0.mk A120
        clear A120
        have H' := Aside0.mk H
        clear H
        go_wp2_with (first | ((with_reducible refine gate_callee (f := 18) rfl ?_); refine goesL_ (some 14) rfl rfl Try.func18 (by kernel_rfl) rfl #[.int .u64 a0, .int .u64 a2] rfl (by (try simp only [List.map_toArray, List.map_cons, List.map_nil]); first | done | rfl | (simp only [List.length_drop, List.length_take]; rfl)) ?_; (with_reducible refine (digest_Step.calls a0 a2 t119 _ A8.out).mono ?_); rintro e w' ⟨rfl, ⟨nd, rfl⟩⟩; refine ⟨_, rfl, ?_⟩) | ((with_reducible refine gate_callee (f := 17) rfl ?_); refine goesL_ (some 15) rfl rfl Try.func17 (by kernel_rfl) rfl #[.int .u64 a0, .int .u64 t119] rfl (by (try simp only [List.map_toArray, List.map_cons, List.map_nil]); first | done | rfl | (simp only [List.length_drop, List.length_take]; rfl)) ?_; (with_reducible refine (digest_Back.calls k a0 t119 t120 _ A9.out).mono ?_); rintro e w' ⟨rfl, ⟨nd, rfl⟩⟩; refine ⟨_, rfl, ?_⟩) | (go_at_call 17; (with_reducible refine (digest_Back.calls k a0 a2 t121 _ A11.out).mono ?_); rintro e w' ⟨rfl, ⟨nd, rfl⟩⟩) | (go_at_call 18; (with_reducible refine (digest_Step.calls a0 t121 t122 _ A12.out).mono ?_); rintro e w' ⟨rfl, ⟨nd, rfl⟩⟩))
        go_meet
        case rel => exact ⟨_, ((t122 != a2)), (by first | rfl | (simp; done) | (simp [*]; done)), H', ⟨by first | omega | exact Nat.le_refl _⟩, ⟨by repeat (first | (with_reducible first | exact HB.out | apply below_alloc | apply pw_below_drewN | apply below_drew1) | exact HB.out)⟩⟩
      · rw [if_neg c10] at H
        have c10b0 : (t120 == a2) = false := beq_eq_false_iff_ne.mpr c10
        have c10b1 : (t120 != a2) = true := bne_iff_ne.mpr c10
        (first | rw [c10b0] | (simp only [i64_w, i32_w]; rw [c10b0]) | skip)
        have H' := Aside0.mk H
        clear H
        go_wp2_with (first | ((with_reducible refine gate_callee (f := 18) rfl ?_); refine goesL_ (some 14) rfl rfl Try.func18 (by kernel_rfl) rfl #[.int .u64 a0, .int .u64 a2] rfl (by (try simp only [List.map_toArray, List.map_cons, List.map_nil]); first | done | rfl | (simp only [List.length_drop, List.length_take]; rfl)) ?_; (with_reducible refine (digest_Step.calls a0 a2 t119 _ A8.out).mono ?_); rintro e w' ⟨rfl, ⟨nd, rfl⟩⟩; refine ⟨_, rfl, ?_⟩) | ((with_reducible refine gate_callee (f := 17) rfl ?_); refine goesL_ (some 15) rfl rfl Try.func17 (by kernel_rfl) rfl #[.int .u64 a0, .int .u64 t119] rfl (by (try simp only [List.map_toArray, List.map_cons, List.map_nil]); first | done | rfl | (simp only [List.length_drop, List.length_take]; rfl)) ?_; (with_reducible refine (digest_Back.calls k a0 t119 t120 _ A9.out).mono ?_); rintro e w' ⟨rfl, ⟨nd, rfl⟩⟩; refine ⟨_, rfl, ?_⟩))
        go_meet
        case rel => exact ⟨_, (true), (by first | rfl | (simp; done) | (simp [*]; done)), H', ⟨by first | omega | exact Nat.le_refl _⟩, ⟨by repeat (first | (with_reducible first | exact HB.out | apply below_alloc | apply pw_below_drewN | apply below_drew1) | exact HB.out)⟩⟩
    case rest =>
      clear HC6
      try clear c1
      try clear p2
      try clear c3
      try clear c5
      try clear c10
      try clear c10b0
      try clear c10b1
      obtain ⟨kq, x26_5, rfl, HA, HJ5, HB⟩ := hcut
      cases kq with
      | zero => exact absurd HA.out (by simp [parolelaw03_DigestSteps.j0])
      | succ kj5 =>
        have H := HA.out
        clear HA
        simp only [parolelaw03_DigestSteps.j0] at H
        by_cases c13 : x26_5 = true
        · subst c13
          have H1 : (none) = some r := by rw [if_pos rfl] at H; exact H
          clear H
          have H := H1
          clear H1
          exact absurd H (by simp)
        · replace c13 := Bool.eq_false_iff.mpr c13
          subst c13
          have H1 : ((digest_Step.f a0 a1).bind fun t123 => ((digest_Step.f a0 a2).bind fun t124 => (if ((t123 == t124) == (a1 == a2)) = true then ((digest_Step.f a1 a0).bind fun t125 => ((digest_Step.f a2 a0).bind fun t126 => (if ((t125 == t126) == (a1 == a2)) = true then (some true) else (none)))) else (none)))) = some r := by rw [if_neg (show ¬ (false = true) by decide)] at H; exact H
          clear H
          have H := H1
          clear H1
          replace H := Option.bind_eq_some_iff.mp H
          obtain ⟨t123, A140, H⟩ := H
          replace H : ((digest_Step.f a0 a2).bind fun t124 => (if ((t123 == t124) == (a1 == a2)) = true then ((digest_Step.f a1 a0).bind fun t125 => ((digest_Step.f a2 a0).bind fun t126 => (if ((t125 == t126) == (a1 == a2)) = true then (some true) else (none)))) else (none))) = some r := H
          have A14 := Aside0.mk A140
          clear A140
          replace H := Option.bind_eq_some_iff.mp H
          obtain ⟨t124, A150, H⟩ := H
          replace H : (if ((t123 == t124) == (a1 == a2)) = true then ((digest_Step.f a1 a0).bind fun t125 => ((digest_Step.f a2 a0).bind fun t126 => (if ((t125 == t126) == (a1 == a2)) = true then (some true) else (none)))) else (none)) = some r := H
          have A15 := Aside0.mk A150
          clear A150
          by_cases c16 : ((t123 == t124) == (a1 == a2)) = true
          · rw [if_pos c16] at H
            have c16b0 : ((t123 == t124) == (a1 == a2)) = true := c16
            (try (have c16b1 : decide ((t123 == t124) = (a1 == a2)) = true := by simpa using c16))
            (try (have c16b2 : ((t123 == t124) == (a1 == a2)) = true := by simpa using c16))
            clear c16
            replace H := Option.bind_eq_some_iff.mp H
            obtain ⟨t125, A170, H⟩ := H
            replace H : ((digest_Step.f a2 a0).bind fun t126 => (if ((t125 == t126) == (a1 == a2)) = true then (some true) else (none))) = some r := H
            have A17 := Aside0.mk A170
            clear A170
            replace H := Option.bind_eq_some_iff.mp H
            obtain ⟨t126, A180, H⟩ := H
            replace H : (if ((t125 == t126) == (a1 == a2)) = true then (some true) else (none)) = some r := H
            have A18 := Aside0.mk A180
            clear A180
            by_cases c19 : ((t125 == t126) == (a1 == a2)) = true
            · rw [if_pos c19] at H
              have c19b0 : ((t125 == t126) == (a1 == a2)) = true := c19
              (try (have c19b1 : decide ((t125 == t126) = (a1 == a2)) = true := by simpa using c19))
              (try (have c19b2 : ((t125 == t126) == (a1 == a2)) = true := by simpa using c19))
              clear c19
              obtain rfl := Option.some.inj H
              go_wp2_with (first | ((with_reducible refine gate_callee (f := 18) rfl ?_); refine goesL_ (some 29) rfl rfl Try.func18 (by kernel_rfl) rfl #[.int .u64 a0, .int .u64 a1] rfl (by (try simp only [List.map_toArray, List.map_cons, List.map_nil]); first | done | rfl | (simp only [List.length_drop, List.length_take]; rfl)) ?_; (with_reducible refine (digest_Step.calls a0 a1 t123 _ A14.out).mono ?_); rintro e w' ⟨rfl, ⟨nd, rfl⟩⟩; refine ⟨_, rfl, ?_⟩) | ((with_reducible refine gate_callee (f := 18) rfl ?_); refine goesL_ (some 32) rfl rfl Try.func18 (by kernel_rfl) rfl #[.int .u64 a0, .int .u64 a2] rfl (by (try simp only [List.map_toArray, List.map_cons, List.map_nil]); first | done | rfl | (simp only [List.length_drop, List.length_take]; rfl)) ?_; (with_reducible refine (digest_Step.calls a0 a2 t124 _ A15.out).mono ?_); rintro e w' ⟨rfl, ⟨nd, rfl⟩⟩; refine ⟨_, rfl, ?_⟩) | (go_at_call 18; (with_reducible refine (digest_Step.calls a1 a0 t125 _ A17.out).mono ?_); rintro e w' ⟨rfl, ⟨nd, rfl⟩⟩) | (go_at_call 18; (with_reducible refine (digest_Step.calls a2 a0 t126 _ A18.out).mono ?_); rintro e w' ⟨rfl, ⟨nd, rfl⟩⟩))
              go_ret
              exact ⟨by first | rfl | (simp [errW_none, errW_some] <;> rfl) | (simp [*, errW_none, errW_some] <;> rfl), by repeat (first | (with_reducible first | exact HB.out | apply below_alloc | apply pw_below_drewN | apply below_drew1) | exact HB.out)⟩
            · rw [if_neg c19] at H
              exact absurd H (by simp)
          · rw [if_neg c16] at H
            exact absurd H (by simp)
  · replace c5 := Bool.eq_false_iff.mpr c5
    subst c5
    have H1 : (none) = some r := by rw [if_neg (show ¬ (false = true) by decide)] at H; exact H
    clear H
    have H := H1
    clear H1
    exact absurd H (by simp)

/-- THE ONE PURE STATEMENT of parolelaw03_DigestSteps: yours. -/
def parolelaw03_DigestSteps.Pure : Prop := ∀ (a0 : Int) (a1 : Int) (a2 : Int), (Lit.int .u64 a0).wf = true → (Lit.int .u64 a1).wf = true → (Lit.int .u64 a2).wf = true → ∃ k, parolelaw03_DigestSteps.f k a0 a1 a2 = some true
theorem parolelaw03_DigestSteps.walk (P : parolelaw03_DigestSteps.Pure) (a0 : Int) (a1 : Int) (a2 : Int) (w : World) (w0 : (Lit.int .u64 a0).wf = true) (w1 : (Lit.int .u64 a1).wf = true) (w2 : (Lit.int .u64 a2).wf = true) :
    Calls Try.prog 3 #[.int .u64 a0, .int .u64 a1, .int .u64 a2] w fun e w' => e = .returned (.bool true) ∧ Below w.heap.size w w' := by
  obtain ⟨k, h⟩ := P a0 a1 a2 w0 w1 w2
  refine (parolelaw03_DigestSteps.calls k a0 a1 a2 true w h).mono ?_
  rintro e w' ⟨rfl, hd⟩
  exact ⟨rfl, hd⟩

/-! ### digest_Join: function 21 -/
def digest_Join.f (a0 : Int) (a1 : Int) : Option (Int) := (digest_Step.f 11820040416388919760 a0).bind fun t127 => ((digest_Step.f t127 a1).bind fun t128 => (some t128))
set_option maxHeartbeats 8000000 in
set_option maxRecDepth 100000 in
theorem digest_Join.calls (a0 : Int) (a1 : Int) (r : Int) (w : World) (h : digest_Join.f a0 a1 = some r) :
    Calls Try.prog 21 #[.int .u64 a0, .int .u64 a1] w fun e w' => e = .returned (.int .u64 r) ∧ Drawn0 w w' := by
  have H : ((digest_Step.f 11820040416388919760 a0).bind fun t127 => ((digest_Step.f t127 a1).bind fun t128 => (some t128))) = some r := h
  clear h
  replace H := Option.bind_eq_some_iff.mp H
  obtain ⟨t127, A30, H⟩ := H
  replace H : ((digest_Step.f t127 a1).bind fun t128 => (some t128)) = some r := H
  have A3 := Aside0.mk A30
  clear A30
  replace H := Option.bind_eq_some_iff.mp H
  obtain ⟨t128, A40, H⟩ := H
  replace H : (some t128) = some r := H
  have A4 := Aside0.mk A40
  clear A40
  obtain rfl := Option.some.inj H
  go_enter Try.func21, Try.ntmps21
  go_wp2_with (first | ((with_reducible refine gate_callee (f := 18) rfl ?_); refine goesL_ (some 6) rfl rfl Try.func18 (by kernel_rfl) rfl #[.int .u64 11820040416388919760, .int .u64 a0] rfl (by (try simp only [List.map_toArray, List.map_cons, List.map_nil]); first | done | rfl | (simp only [List.length_drop, List.length_take]; rfl)) ?_; (with_reducible refine (digest_Step.calls 11820040416388919760 a0 t127 _ A3.out).mono ?_); rintro e w' ⟨rfl, ⟨nd, rfl⟩⟩; refine ⟨_, rfl, ?_⟩) | ((with_reducible refine gate_callee (f := 18) rfl ?_); refine goesL_ (some 8) rfl rfl Try.func18 (by kernel_rfl) rfl #[.int .u64 t127, .int .u64 a1] rfl (by (try simp only [List.map_toArray, List.map_cons, List.map_nil]); first | done | rfl | (simp only [List.length_drop, List.length_take]; rfl)) ?_; (with_reducible refine (digest_Step.calls t127 a1 t128 _ A4.out).mono ?_); rintro e w' ⟨rfl, ⟨nd, rfl⟩⟩; refine ⟨_, rfl, ?_⟩))
  go_ret
  exact ⟨by first | rfl | (simp; done) | (simp [*]; done), by repeat (first | exact Drawn0.refl _ | apply Drawn0.step)⟩

/-! ### parolelaw03_DigestJoins: function 5 -/
def parolelaw03_DigestJoins.f (k : Nat) (a0 : Int) (a1 : Int) (a2 : Int) : Option (Bool) := (parolelaw03_examples.f k).bind fun t129 => (if t129 = true then ((digest_Join.f a0 a1).bind fun t130 => ((digest_Join.f a0 a2).bind fun t131 => (if ((t130 == t131) == (a1 == a2)) = true then ((digest_Join.f a2 a1).bind fun t132 => (if ((t130 == t132) == (a0 == a2)) = true then (some t129) else (none))) else (none)))) else (none))
theorem parolelaw03_DigestJoins.mono : ∀ a0 a1 a2 k, LeO (parolelaw03_DigestJoins.f k a0 a1 a2) (parolelaw03_DigestJoins.f (k + 1) a0 a1 a2) := by
  intro a0 a1 a2 k
  unfold parolelaw03_DigestJoins.f
  repeat' first
      | (with_reducible exact parolelaw03_examples.mono _)
      | (with_reducible exact LeO.refl _)
      | (with_reducible exact LeO.none _)
      | (with_reducible refine LeO.ite ?_ ?_)
      | (with_reducible refine LeO.bind ?_ (fun _ => ?_))
      | exact parolelaw03_examples.mono _
      | exact LeO.none _
      | refine LeO.ite ?_ ?_
      | refine LeO.bind ?_ (fun _ => ?_)
set_option maxHeartbeats 8000000 in
set_option maxRecDepth 100000 in
theorem parolelaw03_DigestJoins.calls (k : Nat) (a0 : Int) (a1 : Int) (a2 : Int) (r : Bool) (w : World) (h : parolelaw03_DigestJoins.f k a0 a1 a2 = some r) :
    Calls Try.prog 5 #[.int .u64 a0, .int .u64 a1, .int .u64 a2] w fun e w' => e = .returned (.bool r) ∧ Below w.heap.size w w' := by
  have HB := Aside0.mk (Below.refl w.heap.size w)
  have H : ((parolelaw03_examples.f k).bind fun t129 => (if t129 = true then ((digest_Join.f a0 a1).bind fun t130 => ((digest_Join.f a0 a2).bind fun t131 => (if ((t130 == t131) == (a1 == a2)) = true then ((digest_Join.f a2 a1).bind fun t132 => (if ((t130 == t132) == (a0 == a2)) = true then (some t129) else (none))) else (none)))) else (none))) = some r := h
  clear h
  replace H := Option.bind_eq_some_iff.mp H
  obtain ⟨t129, A40, H⟩ := H
  replace H : (if t129 = true then ((digest_Join.f a0 a1).bind fun t130 => ((digest_Join.f a0 a2).bind fun t131 => (if ((t130 == t131) == (a1 == a2)) = true then ((digest_Join.f a2 a1).bind fun t132 => (if ((t130 == t132) == (a0 == a2)) = true then (some t129) else (none))) else (none)))) else (none)) = some r := H
  have A4 := Aside0.mk A40
  clear A40
  by_cases c5 : t129 = true
  · subst c5
    have H1 : ((digest_Join.f a0 a1).bind fun t130 => ((digest_Join.f a0 a2).bind fun t131 => (if ((t130 == t131) == (a1 == a2)) = true then ((digest_Join.f a2 a1).bind fun t132 => (if ((t130 == t132) == (a0 == a2)) = true then (some true) else (none))) else (none)))) = some r := by rw [if_pos rfl] at H; exact H
    clear H
    have H := H1
    clear H1
    replace H := Option.bind_eq_some_iff.mp H
    obtain ⟨t130, A60, H⟩ := H
    replace H : ((digest_Join.f a0 a2).bind fun t131 => (if ((t130 == t131) == (a1 == a2)) = true then ((digest_Join.f a2 a1).bind fun t132 => (if ((t130 == t132) == (a0 == a2)) = true then (some true) else (none))) else (none))) = some r := H
    have A6 := Aside0.mk A60
    clear A60
    replace H := Option.bind_eq_some_iff.mp H
    obtain ⟨t131, A70, H⟩ := H
    replace H : (if ((t130 == t131) == (a1 == a2)) = true then ((digest_Join.f a2 a1).bind fun t132 => (if ((t130 == t132) == (a0 == a2)) = true then (some true) else (none))) else (none)) = some r := H
    have A7 := Aside0.mk A70
    clear A70
    by_cases c8 : ((t130 == t131) == (a1 == a2)) = true
    · rw [if_pos c8] at H
      have c8b0 : ((t130 == t131) == (a1 == a2)) = true := c8
      (try (have c8b1 : decide ((t130 == t131) = (a1 == a2)) = true := by simpa using c8))
      (try (have c8b2 : ((t130 == t131) == (a1 == a2)) = true := by simpa using c8))
      clear c8
      replace H := Option.bind_eq_some_iff.mp H
      obtain ⟨t132, A90, H⟩ := H
      replace H : (if ((t130 == t132) == (a0 == a2)) = true then (some true) else (none)) = some r := H
      have A9 := Aside0.mk A90
      clear A90
      by_cases c10 : ((t130 == t132) == (a0 == a2)) = true
      · rw [if_pos c10] at H
        have c10b0 : ((t130 == t132) == (a0 == a2)) = true := c10
        (try (have c10b1 : decide ((t130 == t132) = (a0 == a2)) = true := by simpa using c10))
        (try (have c10b2 : ((t130 == t132) == (a0 == a2)) = true := by simpa using c10))
        clear c10
        obtain rfl := Option.some.inj H
        go_enter Try.func5, Try.ntmps5
        go_wp2_with (first | ((with_reducible refine gate_callee (f := 16) rfl ?_); refine goesL_ (some 9) rfl rfl Try.func16 (by kernel_rfl) rfl #[] rfl (by (try simp only [List.map_toArray, List.map_cons, List.map_nil]); first | done | rfl | (simp only [List.length_drop, List.length_take]; rfl)) ?_; (with_reducible refine (parolelaw03_examples.calls k  true _ A4.out).mono ?_); rintro e w11 ⟨rfl, hb⟩; refine ⟨_, rfl, ?_⟩; have n0_ := Aside0.mk (below_step (by repeat (first | (with_reducible first | exact HB.out | apply below_alloc | apply pw_below_drewN | apply below_drew1) | exact HB.out)) hb); clear HB; have HB := n0_; clear n0_; (try clear hb); (try clear hb2); (try clear hk); (try clear hi)) | ((with_reducible refine gate_callee (f := 21) rfl ?_); refine goesL_ (some 14) rfl rfl Try.func21 (by kernel_rfl) rfl #[.int .u64 a0, .int .u64 a1] rfl (by (try simp only [List.map_toArray, List.map_cons, List.map_nil]); first | done | rfl | (simp only [List.length_drop, List.length_take]; rfl)) ?_; (with_reducible refine (digest_Join.calls a0 a1 t130 _ A6.out).mono ?_); rintro e w' ⟨rfl, ⟨nd, rfl⟩⟩; refine ⟨_, rfl, ?_⟩) | ((with_reducible refine gate_callee (f := 21) rfl ?_); refine goesL_ (some 18) rfl rfl Try.func21 (by kernel_rfl) rfl #[.int .u64 a0, .int .u64 a2] rfl (by (try simp only [List.map_toArray, List.map_cons, List.map_nil]); first | done | rfl | (simp only [List.length_drop, List.length_take]; rfl)) ?_; (with_reducible refine (digest_Join.calls a0 a2 t131 _ A7.out).mono ?_); rintro e w' ⟨rfl, ⟨nd, rfl⟩⟩; refine ⟨_, rfl, ?_⟩) | (go_at_call 21; (with_reducible refine (digest_Join.calls a2 a1 t132 _ A9.out).mono ?_); rintro e w' ⟨rfl, ⟨nd, rfl⟩⟩))
        go_ret
        exact ⟨by first | rfl | (simp [errW_none, errW_some] <;> rfl) | (simp [*, errW_none, errW_some] <;> rfl), by repeat (first | (with_reducible first | exact HB.out | apply below_alloc | apply pw_below_drewN | apply below_drew1) | exact HB.out)⟩
      · rw [if_neg c10] at H
        exact absurd H (by simp)
    · rw [if_neg c8] at H
      exact absurd H (by simp)
  · replace c5 := Bool.eq_false_iff.mpr c5
    subst c5
    have H1 : (none) = some r := by rw [if_neg (show ¬ (false = true) by decide)] at H; exact H
    clear H
    have H := H1
    clear H1
    exact absurd H (by simp)

/-- THE ONE PURE STATEMENT of parolelaw03_DigestJoins: yours. -/
def parolelaw03_DigestJoins.Pure : Prop := ∀ (a0 : Int) (a1 : Int) (a2 : Int), (Lit.int .u64 a0).wf = true → (Lit.int .u64 a1).wf = true → (Lit.int .u64 a2).wf = true → ∃ k, parolelaw03_DigestJoins.f k a0 a1 a2 = some true
theorem parolelaw03_DigestJoins.walk (P : parolelaw03_DigestJoins.Pure) (a0 : Int) (a1 : Int) (a2 : Int) (w : World) (w0 : (Lit.int .u64 a0).wf = true) (w1 : (Lit.int .u64 a1).wf = true) (w2 : (Lit.int .u64 a2).wf = true) :
    Calls Try.prog 5 #[.int .u64 a0, .int .u64 a1, .int .u64 a2] w fun e w' => e = .returned (.bool true) ∧ Below w.heap.size w w' := by
  obtain ⟨k, h⟩ := P a0 a1 a2 w0 w1 w2
  refine (parolelaw03_DigestJoins.calls k a0 a1 a2 true w h).mono ?_
  rintro e w' ⟨rfl, hd⟩
  exact ⟨rfl, hd⟩

end Go.Proofs.Ytikicibbbeofnaa.D
