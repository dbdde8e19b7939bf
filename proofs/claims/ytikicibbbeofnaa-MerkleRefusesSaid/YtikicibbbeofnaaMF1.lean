-- Written by wip/hprint.py (this session's) with the kit's printer and contracts of our own. Not trusted: Lean checks it.
import Derived.Test.YtikicibbbeofnaaMF0
namespace Go.Proofs.Ytikicibbbeofnaa.MF
open Go.RowKit Go.Proofs.YtikicibbbeofnaaW.PrintWords Go.Proofs.YtikicibbbeofnaaW.PrintLast Go.Proofs.YtikicibbbeofnaaW.PrintMore
attribute [local go_sem] max2_int min2_int max_two min_two max_three min_three max_four min_four   -- for this text's walks alone
set_option linter.unusedVariables false
set_option linter.unusedSimpArgs false

/-! ### digest_Step: function 18 -/
def digest_Step.f (a0 : Int) (a1 : Int) : Option (Int) := some (Go.bits .xor .u64 (IntKind.u64.wrap ((Go.bits .xor .u64 (IntKind.u64.wrap ((Go.bits .xor .u64 a0 a1) * 11400714819323198485)) ((IntKind.u64.wrap ((Go.bits .xor .u64 a0 a1) * 11400714819323198485)) / 536870912)) * 13787848793156543929)) ((IntKind.u64.wrap ((Go.bits .xor .u64 (IntKind.u64.wrap ((Go.bits .xor .u64 a0 a1) * 11400714819323198485)) ((IntKind.u64.wrap ((Go.bits .xor .u64 a0 a1) * 11400714819323198485)) / 536870912)) * 13787848793156543929)) / 4294967296))
set_option maxHeartbeats 8000000 in
set_option maxRecDepth 100000 in
theorem digest_Step.calls (a0 : Int) (a1 : Int) (r : Int) (w : World) (h : digest_Step.f a0 a1 = some r) :
    Calls Try.prog 18 #[.int .u64 a0, .int .u64 a1] w fun e w' => e = .returned (.int .u64 r) ∧ Drawn0 w w' := by
  have H : (some (Go.bits .xor .u64 (IntKind.u64.wrap ((Go.bits .xor .u64 (IntKind.u64.wrap ((Go.bits .xor .u64 a0 a1) * 11400714819323198485)) ((IntKind.u64.wrap ((Go.bits .xor .u64 a0 a1) * 11400714819323198485)) / 536870912)) * 13787848793156543929)) ((IntKind.u64.wrap ((Go.bits .xor .u64 (IntKind.u64.wrap ((Go.bits .xor .u64 a0 a1) * 11400714819323198485)) ((IntKind.u64.wrap ((Go.bits .xor .u64 a0 a1) * 11400714819323198485)) / 536870912)) * 13787848793156543929)) / 4294967296))) = some r := h
  clear h
  obtain rfl := Option.some.inj H
  go_enter Try.func18, Try.ntmps18
  go_wp2
  go_ret
  exact ⟨by first | rfl | (simp; done) | (simp [*]; done), by repeat (first | exact Drawn0.refl _ | apply Drawn0.step)⟩

/-! ### digest_Join: function 21 -/
def digest_Join.f (a0 : Int) (a1 : Int) : Option (Int) := (digest_Step.f 11820040416388919760 a0).bind fun t101 => ((digest_Step.f t101 a1).bind fun t102 => (some t102))
set_option maxHeartbeats 8000000 in
set_option maxRecDepth 100000 in
theorem digest_Join.calls (a0 : Int) (a1 : Int) (r : Int) (w : World) (h : digest_Join.f a0 a1 = some r) :
    Calls Try.prog 21 #[.int .u64 a0, .int .u64 a1] w fun e w' => e = .returned (.int .u64 r) ∧ Drawn0 w w' := by
  have H : ((digest_Step.f 11820040416388919760 a0).bind fun t101 => ((digest_Step.f t101 a1).bind fun t102 => (some t102))) = some r := h
  clear h
  replace H := Option.bind_eq_some_iff.mp H
  obtain ⟨t101, A30, H⟩ := H
  replace H : ((digest_Step.f t101 a1).bind fun t102 => (some t102)) = some r := H
  have A3 := Aside0.mk A30
  clear A30
  replace H := Option.bind_eq_some_iff.mp H
  obtain ⟨t102, A40, H⟩ := H
  replace H : (some t102) = some r := H
  have A4 := Aside0.mk A40
  clear A40
  obtain rfl := Option.some.inj H
  go_enter Try.func21, Try.ntmps21
  go_wp2_with (first | ((with_reducible refine gate_callee (f := 18) rfl ?_); refine goesL_ (some 6) rfl rfl Try.func18 (by kernel_rfl) rfl #[.int .u64 11820040416388919760, .int .u64 a0] rfl (by (try simp only [List.map_toArray, List.map_cons, List.map_nil]); first | done | rfl | (simp only [List.length_drop, List.length_take]; rfl)) ?_; (with_reducible refine (digest_Step.calls 11820040416388919760 a0 t101 _ A3.out).mono ?_); rintro e w' ⟨rfl, ⟨nd, rfl⟩⟩; refine ⟨_, rfl, ?_⟩) | ((with_reducible refine gate_callee (f := 18) rfl ?_); refine goesL_ (some 8) rfl rfl Try.func18 (by kernel_rfl) rfl #[.int .u64 t101, .int .u64 a1] rfl (by (try simp only [List.map_toArray, List.map_cons, List.map_nil]); first | done | rfl | (simp only [List.length_drop, List.length_take]; rfl)) ?_; (with_reducible refine (digest_Step.calls t101 a1 t102 _ A4.out).mono ?_); rintro e w' ⟨rfl, ⟨nd, rfl⟩⟩; refine ⟨_, rfl, ?_⟩))
  go_ret
  exact ⟨by first | rfl | (simp; done) | (simp [*]; done), by repeat (first | exact Drawn0.refl _ | apply Drawn0.step)⟩

/-! ### merkle_halves_uint64: function 57 -/
def IsHalf (n k : Nat) : Prop := (∃ j, k = 2 ^ j) ∧ k < n ∧ n ≤ 2 * k
theorem IsHalf.unique {n k m : Nat} (h : IsHalf n k) (g : IsHalf n m) : k = m := by
  obtain ⟨⟨i, rfl⟩, h1, h2⟩ := h
  obtain ⟨⟨j, rfl⟩, g1, g2⟩ := g
  rcases Nat.lt_trichotomy i j with h | h | h
  · have := Nat.pow_le_pow_right (n := 2) (by decide) (show i + 1 ≤ j by omega)
    rw [Nat.pow_succ] at this; omega
  · rw [h]
  · have := Nat.pow_le_pow_right (n := 2) (by decide) (show j + 1 ≤ i by omega)
    rw [Nat.pow_succ] at this; omega
def halfG : Nat → Nat → Nat → Nat
  | 0, k, _ => k
  | f + 1, k, n => if 2 * k < n then halfG f (2 * k) n else k
def half (n : Nat) : Nat := halfG n 1 n
theorem halfG_is : ∀ (f j n : Nat), 2 ^ j < n → n ≤ f + 2 ^ j → IsHalf n (halfG f (2 ^ j) n)
  | 0, j, n, h, g => by omega
  | f + 1, j, n, h, g => by
    unfold halfG
    by_cases hc : 2 * 2 ^ j < n
    · rw [if_pos hc, show 2 * 2 ^ j = 2 ^ (j + 1) from by rw [Nat.pow_succ]; omega]
      have hp : 1 ≤ 2 ^ j := Nat.one_le_two_pow
      exact halfG_is f (j + 1) n (by rw [Nat.pow_succ]; omega) (by rw [Nat.pow_succ]; omega)
    · rw [if_neg hc]
      exact ⟨⟨j, rfl⟩, h, by omega⟩
theorem half_is (n : Nat) (h : 2 ≤ n) : IsHalf n (half n) := halfG_is n 0 n (by rw [Nat.pow_zero]; omega) (by omega)
theorem half_range (n : Nat) (h : 2 ≤ n) : 1 ≤ half n ∧ half n < n := by
  obtain ⟨⟨j, hj⟩, h1, _⟩ := half_is n h
  exact ⟨by rw [hj]; exact Nat.one_le_two_pow, h1⟩
theorem info22h : (Try.prog.info? 22).map (fun i => (i.zero, i.size, i.bytes)) = some (some (.int .u64 0), 1, 8) := by kernel_rfl
def HalvesPost (l : List Int) (A : Option Addr) (c : Nat) (w : World) (e : Ending) (w' : World) : Prop :=
  ∃ (A1 : Option Addr) (c1 : Nat), e = .returned (.tuple #[.slice A (l.take (half l.length)).length c, .slice A1 (l.drop (half l.length)).length c1]) ∧ (l.drop (half l.length)).length ≤ c1 ∧ (l.take (half l.length)).length ≤ c ∧
    (∀ W, Kd.C (Kd.int .u64) W A l.length l → Kd.C (Kd.int .u64) W A1 (l.drop (half l.length)).length (l.drop (half l.length))) ∧
    (∀ W, Kd.C (Kd.int .u64) W A l.length l → Kd.C (Kd.int .u64) W A (l.take (half l.length)).length (l.take (half l.length))) ∧ Drawn0 w w'
set_option maxHeartbeats 400000 in
theorem halves_calls (A : Option Addr) (c : Nat) (l : List Int) (w : World) (hc : l.length ≤ c) (h2 : 2 ≤ l.length) (hm : l.length ≤ 1152921504606846976) :
    Calls Try.prog 57 #[.slice A l.length c] w (HalvesPost l A c w) := by
  have HH := Aside0.mk (half_is l.length h2)
  obtain ⟨i0, hi0, _, hsz0, _⟩ := info_parts info22h
  obtain ⟨hA1, hA2, hA3⟩ := print_take_of (P := Try.prog) (Value.int .u64) 0 41 22 .i64 Try.underlying41 hi0 hsz0 A c l (half l.length : Int) (by omega) (by have := (half_range l.length h2).2; omega) hc
  obtain ⟨A', hB1, hB2, hB3⟩ := print_cut_int (P := Try.prog) (k := .u64) 41 22 Try.underlying41 hi0 hsz0 A c l (half l.length : Int) (by omega) (by have := (half_range l.length h2).2; omega) hc
  have HP := Aside0.mk (show HalvesPost l A c w (.returned (.tuple #[.slice A (l.take (half l.length)).length c, .slice A' (l.drop (half l.length)).length (c - half l.length)])) w from by
    rw [Int.toNat_natCast] at hA2 hA3 hB2 hB3
    exact ⟨A', _, rfl, hB3, hA3, fun W h => Kd.C_of_reads (h1 := fun _ => rfl) (hB2 W (Kd.reads_of_C h)), fun W h => Kd.C_of_reads (h1 := fun _ => rfl) (hA2 W (Kd.reads_of_C h)), Drawn0.refl _⟩)
  clear hA2 hA3 hB2 hB3 hi0 hsz0
  rw [Int.toNat_natCast] at hA1 hB1
  generalize hE : (l.take (half l.length)).length = n1 at hA1 HP
  generalize hE2 : (l.drop (half l.length)).length = n2 at hB1 HP
  clear hE hE2
  go_enter Try.func57, Try.ntmps57
  go_wp2
  go_loop [4] (fun v4 => ∃ j : Nat, v4 = .int .i64 ((2 ^ j : Nat) : Int) ∧ Aside0 (2 ^ j < l.length)) (fun v4 => l.length - (intOf v4).toNat)
  case atStart => exact ⟨0, rfl, ⟨by rw [Nat.pow_zero]; omega⟩⟩
  case round =>
    obtain ⟨j, rfl, HJ⟩ := hrel
    have hj := HJ.out
    have hj1 : 1 ≤ 2 ^ j := Nat.one_le_two_pow
    have HS := Aside0.mk (show 2 ^ (j + 1) = 2 ^ j * 2 from Nat.pow_succ _ _)
    have HK := Aside0.mk (fun (hc : l.length ≤ 2 * 2 ^ j) => (half_is l.length h2).unique ⟨⟨j, rfl⟩, hj, hc⟩)
    generalize 2 ^ j = k at hj hj1 HS HK
    clear HJ HH
    by_cases hlt : 2 * k < l.length
    · have h3 : decide ((2 : Int) * (k : Int) < (l.length : Int)) = true := by simp; omega
      go_wp2
      exact ⟨⟨j + 1, by rw [HS.out]; exact congrArg (Value.int .i64) (by omega), ⟨by rw [HS.out]; omega⟩⟩, by simp [intOf]; omega⟩
    · obtain rfl := (HK.out (by omega))
      clear HK
      go_wp2
      go_quiet (fail)
      go_wp2
      go_ret2
      obtain ⟨B, d, h1, h2, h3, h4, h5, _⟩ := HP.out
      exact ⟨B, d, h1, h2, h3, h4, h5, Drawn0.step (Drawn0.refl _) _⟩

/-! ### merkle_top: function 46 -/
def joinV (a b : Int) : Int := (digest_Join.f a b).getD 0
theorem joinV_f (a b : Int) : digest_Join.f a b = some (joinV a b) := rfl
def topN : Nat → List Int → Int
  | 0, _ => 0
  | n + 1, l => if l.length = 0 then 0 else if l.length = 1 then joinV 0 (rd l 0) else joinV (topN n (l.take (half l.length))) (topN n (l.drop (half l.length)))
def merkle_top.f (l : List Int) : Option Int := if l.length ≤ 1152921504606846976 then some (topN l.length l) else none
theorem topN_more : ∀ (n m : Nat) (l : List Int), l.length ≤ n → l.length ≤ m → topN n l = topN m l
  | 0, 0, _, _, _ => rfl
  | 0, m + 1, l, h, _ => by
    have e : l.length = 0 := by omega
    simp only [topN]
    rw [if_pos e]
  | n + 1, 0, l, _, h => by
    have e : l.length = 0 := by omega
    simp only [topN]
    rw [if_pos e]
  | n + 1, m + 1, l, h, g => by
    simp only [topN]
    by_cases h0 : l.length = 0
    · rw [if_pos h0, if_pos h0]
    by_cases h1 : l.length = 1
    · rw [if_neg h0, if_neg h0, if_pos h1, if_pos h1]
    have hr := half_range l.length (by omega)
    rw [if_neg h0, if_neg h0, if_neg h1, if_neg h1, topN_more n m _ (by rw [List.length_take]; omega) (by rw [List.length_take]; omega), topN_more n m _ (by rw [List.length_drop]; omega) (by rw [List.length_drop]; omega)]
set_option maxHeartbeats 400000 in
theorem top_calls (n : Nat) : ∀ (A : Option Addr) (c : Nat) (l : List Int) (w : World), l.length ≤ n → l.length ≤ 1152921504606846976 → Kd.C (Kd.int .u64) w A l.length l → l.length ≤ c →
    Calls Try.prog 46 #[.slice A l.length c] w fun e w' => e = .returned (.int .u64 (topN n l)) ∧ Drawn0 w w' := by
  induction n with
  | zero =>
    intro A c l w hn hm hr hc
    have e : (l.length == 0) = true := by simp; exact List.length_eq_zero_iff.1 (by omega)
    go_enter Try.func46, Try.ntmps46
    go_wp2
    go_ret
    exact ⟨rfl, Drawn0.refl _⟩
  | succ n ih =>
    intro A c l w hn hm hr hc
    by_cases h0 : l.length = 0
    · have e : (l.length == 0) = true := beq_iff_eq.2 h0
      have HT := Aside0.mk (show topN (n + 1) l = 0 by simp only [topN]; rw [if_pos h0])
      clear ih h0
      go_enter Try.func46, Try.ntmps46
      go_wp2
      go_ret
      exact ⟨by rw [HT.out]; rfl, Drawn0.refl _⟩
    have e0 : (l.length == 0) = false := beq_eq_false_iff_ne.2 h0
    by_cases h1 : l.length = 1
    · have e1 : (l.length == 1) = true := beq_iff_eq.2 h1
      have HT := Aside0.mk (show topN (n + 1) l = joinV 0 (rd l 0) by simp only [topN]; rw [if_neg h0, if_pos h1])
      obtain ⟨ad, rfl, hcell⟩ := Kd.at_int hr 0 (by omega) (by omega)
      have hc1 : w.cell? ad = some (.int .u64 (rd l 0)) := by rw [← hcell]; rfl
      have hpos : 0 < l.length := by omega
      clear ih h0 h1 hcell
      go_enter Try.func46, Try.ntmps46
      go_wp2_with (go_at_call 21; (with_reducible refine (digest_Join.calls _ _ _ _ (joinV_f _ _)).mono ?_); rintro e w' ⟨rfl, ⟨nd, rfl⟩⟩)
      go_ret
      exact ⟨by rw [HT.out]; rfl, Drawn0.step (Drawn0.refl _) _⟩
    · have e1 : (l.length == 1) = false := beq_eq_false_iff_ne.2 h1
      have hh := half_range l.length (by omega)
      have HT := Aside0.mk (show topN (n + 1) l = joinV (topN n (l.take (half l.length))) (topN n (l.drop (half l.length))) by simp only [topN]; rw [if_neg h0, if_neg h1])
      obtain ⟨lt, ht⟩ : ∃ x, x = l.take (half l.length) := ⟨_, rfl⟩
      obtain ⟨ld, hd⟩ : ∃ x, x = l.drop (half l.length) := ⟨_, rfl⟩
      have HA : Aside0 (Calls Try.prog 57 #[.slice A l.length c] w fun e w' => ∃ (A1 : Option Addr) (c1 : Nat), e = .returned (.tuple #[.slice A lt.length c, .slice A1 ld.length c1]) ∧ Aside0 (ld.length ≤ c1 ∧ lt.length ≤ c ∧ Kd.C (Kd.int .u64) w A1 ld.length ld ∧ Kd.C (Kd.int .u64) w A lt.length lt) ∧ Drawn0 w w') := by
        refine ⟨(halves_calls A c l w hc (by omega) hm).mono ?_⟩
        rintro e w' ⟨A1, c1, h1, h2, h3, h4, h5, h6⟩
        rw [← ht] at h1 h3 h5
        rw [← hd] at h1 h2 h4
        exact ⟨A1, c1, h1, ⟨h2, h3, h4 w hr, h5 w hr⟩, h6⟩
      have HL := Aside0.mk (show lt.length ≤ n ∧ lt.length ≤ 1152921504606846976 ∧ ld.length ≤ n ∧ ld.length ≤ 1152921504606846976 by rw [ht, hd, List.length_take, List.length_drop]; omega)
      rw [← ht, ← hd] at HT
      have IH := Aside0.mk ih
      clear ih h0 h1 hr hh hc hn hm ht hd
      go_enter Try.func46, Try.ntmps46
      go_wp2_with (first | (go_at_call 57; refine HA.out.mono ?_; rintro e w' ⟨A1, c1, rfl, HC, ⟨nd, rfl⟩⟩) | (go_at_call 46; (with_reducible refine (IH.out A c lt _ HL.out.1 HL.out.2.1 (Kd.C_drewN HC.out.2.2.2 _) HC.out.2.1).mono ?_); rintro e w' ⟨rfl, ⟨nd1, rfl⟩⟩) | (go_at_call 46; (with_reducible refine (IH.out _ _ ld _ HL.out.2.2.1 HL.out.2.2.2 (Kd.C_drewN HC.out.2.2.1 _) HC.out.1).mono ?_); rintro e w' ⟨rfl, ⟨nd2, rfl⟩⟩) | (go_at_call 21; (with_reducible refine (digest_Join.calls _ _ _ _ (joinV_f _ _)).mono ?_); rintro e w' ⟨rfl, ⟨nd3, rfl⟩⟩))
      go_ret
      exact ⟨by rw [HT.out]; rfl, Drawn0.step (Drawn0.refl _) _⟩
theorem merkle_top.calls (A0 : Option Addr) (c0 : Nat) (l0 : List Int) (r : Int) (w : World) (hr0 : Kd.C (Kd.int .u64) w A0 l0.length l0) (hc0 : l0.length ≤ c0) (h : merkle_top.f l0 = some r) :
    Calls Try.prog 46 #[.slice A0 l0.length c0] w fun e w' => e = .returned (.int .u64 r) ∧ Drawn0 w w' := by
  unfold merkle_top.f at h
  by_cases hm : l0.length ≤ 1152921504606846976
  · rw [if_pos hm] at h
    obtain rfl := Option.some.inj h
    exact top_calls l0.length A0 c0 l0 w (Nat.le_refl _) hm hr0 hc0
  · rw [if_neg hm] at h; cases h

/-! ### merkle_Root: function 33 -/
def merkle_Root.f (l0 : List Int) : Option (Int) := (merkle_top.f l0).bind fun t103 => ((digest_Join.f (IntKind.u64.wrap ((l0.length : Int))) t103).bind fun t104 => (some t104))
set_option maxHeartbeats 8000000 in
set_option maxRecDepth 100000 in
theorem merkle_Root.calls (A0 : Option Addr) (c0 : Nat) (l0 : List Int) (r : Int) (w : World) (hr0 : Kd.C (Kd.int .u64) w A0 l0.length l0) (hc0 : l0.length ≤ c0) (h : merkle_Root.f l0 = some r) :
    Calls Try.prog 33 #[.slice A0 l0.length c0] w fun e w' => e = .returned (.int .u64 r) ∧ Drawn0 w w' := by
  have HR0 := Aside0.mk hr0
  have HC0 := Aside0.mk hc0
  clear hr0 hc0
  have H : ((merkle_top.f l0).bind fun t103 => ((digest_Join.f (IntKind.u64.wrap ((l0.length : Int))) t103).bind fun t104 => (some t104))) = some r := h
  clear h
  replace H := Option.bind_eq_some_iff.mp H
  obtain ⟨t103, A20, H⟩ := H
  replace H : ((digest_Join.f (IntKind.u64.wrap ((l0.length : Int))) t103).bind fun t104 => (some t104)) = some r := H
  have A2 := Aside0.mk A20
  clear A20
  replace H := Option.bind_eq_some_iff.mp H
  obtain ⟨t104, A30, H⟩ := H
  replace H : (some t104) = some r := H
  have A3 := Aside0.mk A30
  clear A30
  obtain rfl := Option.some.inj H
  go_enter Try.func33, Try.ntmps33
  go_wp2_with (first | ((with_reducible refine gate_callee (f := 46) rfl ?_); refine goesL_ (some 7) rfl rfl Try.func46 (by kernel_rfl) rfl #[.slice A0 l0.length c0] rfl (by (try simp only [List.map_toArray, List.map_cons, List.map_nil]); first | done | rfl | (simp only [List.length_drop, List.length_take]; rfl)) ?_; (with_reducible refine (merkle_top.calls _ _ l0 t103 _ ?side1 ?side2 A2.out).mono ?_); (case side1 => repeat (first | exact HR0.out | (with_reducible refine Kd.C_alloc ?_ _) | (with_reducible refine Kd.C_drewN ?_ _) | (with_reducible refine Kd.C_drew ?_))); (case side2 => exact HC0.out); rintro e w' ⟨rfl, ⟨nd, rfl⟩⟩; refine ⟨_, rfl, ?_⟩) | ((with_reducible refine gate_callee (f := 21) rfl ?_); refine goesL_ (some 8) rfl rfl Try.func21 (by kernel_rfl) rfl #[.int .u64 (IntKind.u64.wrap ((l0.length : Int))), .int .u64 t103] rfl (by (try simp only [List.map_toArray, List.map_cons, List.map_nil]); first | done | rfl | (simp only [List.length_drop, List.length_take]; rfl)) ?_; (with_reducible refine (digest_Join.calls (IntKind.u64.wrap ((l0.length : Int))) t103 t104 _ A3.out).mono ?_); rintro e w' ⟨rfl, ⟨nd, rfl⟩⟩; refine ⟨_, rfl, ?_⟩))
  go_ret
  exact ⟨by first | rfl | (simp; done) | (simp [*]; done), by repeat (first | exact Drawn0.refl _ | apply Drawn0.step)⟩

/-! ### merkle_place: function 54 -/
def merkle_place.f (a0 : Int) (a1 : Int) : Option (Int) := if a0 > 4096 then (some 2) else (if a1 < 0 then (some 1) else (if a1 ≥ a0 then (some 1) else (some 0)))
set_option maxHeartbeats 8000000 in
set_option maxRecDepth 100000 in
theorem merkle_place.calls (a0 : Int) (a1 : Int) (r : Int) (w : World) (h : merkle_place.f a0 a1 = some r) :
    Calls Try.prog 54 #[.int .i64 a0, .int .i64 a1] w fun e w' => e = .returned (.int .i64 r) ∧ Drawn0 w w' := by
  have H : (if a0 > 4096 then (some 2) else (if a1 < 0 then (some 1) else (if a1 ≥ a0 then (some 1) else (some 0)))) = some r := h
  clear h
  by_cases c3 : a0 > 4096
  · rw [if_pos c3] at H
    have c3b0 : decide (4096 < a0) = true := decide_eq_true c3
    clear c3
    obtain rfl := Option.some.inj H
    go_enter Try.func54, Try.ntmps54
    go_wp2
    go_ret
    exact ⟨by first | rfl | (simp; done) | (simp [*]; done), by repeat (first | exact Drawn0.refl _ | apply Drawn0.step)⟩
  · rw [if_neg c3] at H
    have c3b0 : decide (4096 < a0) = false := decide_eq_false c3
    clear c3
    by_cases c4 : a1 < 0
    · rw [if_pos c4] at H
      have c4b0 : decide (a1 < 0) = true := decide_eq_true c4
      clear c4
      obtain rfl := Option.some.inj H
      go_enter Try.func54, Try.ntmps54
      go_wp2
      go_ret
      exact ⟨by first | rfl | (simp; done) | (simp [*]; done), by repeat (first | exact Drawn0.refl _ | apply Drawn0.step)⟩
    · rw [if_neg c4] at H
      have c4b0 : decide (a1 < 0) = false := decide_eq_false c4
      clear c4
      by_cases c5 : a1 ≥ a0
      · rw [if_pos c5] at H
        have c5b0 : decide (a0 ≤ a1) = true := decide_eq_true c5
        clear c5
        obtain rfl := Option.some.inj H
        go_enter Try.func54, Try.ntmps54
        go_wp2
        go_ret
        exact ⟨by first | rfl | (simp; done) | (simp [*]; done), by repeat (first | exact Drawn0.refl _ | apply Drawn0.step)⟩
      · rw [if_neg c5] at H
        have c5b0 : decide (a0 ≤ a1) = false := decide_eq_false c5
        clear c5
        obtain rfl := Option.some.inj H
        go_enter Try.func54, Try.ntmps54
        go_wp2
        go_ret
        exact ⟨by first | rfl | (simp; done) | (simp [*]; done), by repeat (first | exact Drawn0.refl _ | apply Drawn0.step)⟩

/-! ### merkle_Open: function 47 -/
def downN : Nat → List Int → Nat → List Int
  | 0, _, _ => []
  | n + 1, l, i => if l.length ≤ 1 then [] else if i < half l.length then topN (l.drop (half l.length)).length (l.drop (half l.length)) :: downN n (l.take (half l.length)) i else topN (l.take (half l.length)).length (l.take (half l.length)) :: downN n (l.drop (half l.length)) (i - half l.length)
def merkle_Open.f (l : List Int) (i : Int) : Option (List Int × Int) := if (l.length : Int) > 4096 then some ([], 2) else if i < 0 then some ([], 1) else if i ≥ (l.length : Int) then some ([], 1) else some ((downN l.length l i.toNat).reverse, 0)
def slenM : Value → Nat
  | .slice _ n _ => n
  | _ => 0
def revTo (l : List Int) (a : Nat) : List Int := (List.range l.length).map fun k => if k < a ∨ l.length ≤ k + a then rd l ((l.length - 1 - k : Nat) : Int) else rd l (k : Int)
theorem revTo_length (l : List Int) (a : Nat) : (revTo l a).length = l.length := by simp [revTo]
theorem revTo_at (l : List Int) (a k : Nat) (h : k < l.length) : rd (revTo l a) (k : Int) = if k < a ∨ l.length ≤ k + a then rd l ((l.length - 1 - k : Nat) : Int) else rd l (k : Int) := by
  unfold rd
  simp only [Int.toNat_natCast]
  unfold revTo
  rw [List.getD_eq_getElem?_getD, List.getElem?_map, List.getElem?_range h]
  rfl
theorem revTo_zero (l : List Int) : revTo l 0 = l := by
  refine List.ext_getElem (revTo_length l 0) fun k h1 h2 => ?_
  have h := revTo_at l 0 k h2
  rw [if_neg (by omega)] at h
  unfold rd at h
  simpa [h1, h2] using h
theorem revTo_step (l : List Int) (a N : Nat) (hN : N = l.length) (h : 2 * a + 1 < N) :
    ((revTo l a).set ((a : Nat) : Int).toNat (rd (revTo l a) ((N - 1 - a : Nat) : Int))).set ((N - 1 - a : Nat) : Int).toNat (rd (revTo l a) ((a : Nat) : Int)) = revTo l (a + 1) := by
  subst hN
  have hl := revTo_length l a
  refine List.ext_getElem (by simp [revTo_length]) fun k h1 h2 => ?_
  have hk : k < l.length := by simpa [revTo_length] using h2
  have e2 := revTo_at l (a + 1) k hk
  have e1 := revTo_at l a k hk
  have ea := revTo_at l a a (by omega)
  have eb := revTo_at l a (l.length - 1 - a) (by omega)
  rw [if_neg (by omega)] at ea
  rw [if_neg (by omega)] at eb
  have g2 : (revTo l (a + 1))[k] = rd (revTo l (a + 1)) (k : Int) := by unfold rd; simp [h2]
  have g1 : (revTo l a)[k]'(by omega) = rd (revTo l a) (k : Int) := by unfold rd; simp [show k < (revTo l a).length by omega]
  rw [g2, e2]
  simp only [Int.toNat_natCast, List.getElem_set]
  by_cases c1 : l.length - 1 - a = k
  · rw [if_pos c1, ea, if_pos (by omega), show l.length - 1 - k = a by omega]
  · rw [if_neg c1]
    by_cases c2 : a = k
    · rw [if_pos c2, eb, if_pos (by omega), show l.length - 1 - k = l.length - 1 - a by omega]
    · rw [if_neg c2, g1, e1]
      by_cases c3 : k < a ∨ l.length ≤ k + a
      · rw [if_pos c3, if_pos (by omega)]
      · rw [if_neg c3, if_neg (by omega)]
theorem revTo_all (l : List Int) (a : Nat) (h : l.length ≤ 2 * a + 1) : revTo l a = l.reverse := by
  refine List.ext_getElem (by simp [revTo_length]) fun k h1 h2 => ?_
  have hk : k < l.length := by simpa using h2
  have e1 := revTo_at l a k hk
  have g1 : (revTo l a)[k] = rd (revTo l a) (k : Int) := by unfold rd; simp [h1]
  rw [g1, e1, List.getElem_reverse]
  by_cases c : k < a ∨ l.length ≤ k + a
  · rw [if_pos c]; unfold rd; simp [show l.length - 1 - k < l.length by omega]
  · rw [if_neg c]
    have h3 : ∀ (q : Nat) (hq : q < l.length), q = k → rd l (k : Int) = l[q] := by
      intro q hq e
      subst e
      unfold rd; simp [hq]
    exact h3 _ _ (by omega)
def OpenPost (r : List Int × Int) (w : World) (e : Ending) (w' : World) : Prop := ∃ v0_ : Value, e = .returned (.tuple #[v0_, .int .i64 r.2]) ∧ Kd.R (Kd.int .u64) 22 w' w.heap.size (fun _ => True) v0_ r.1 ∧ Below w.heap.size w w'
set_option maxHeartbeats 400000 in
theorem open_no (A0 : Option Addr) (c0 : Nat) (l0 : List Int) (i e : Int) (w : World) (he : merkle_place.f (l0.length : Int) i = some e) (h0 : e ≠ 0) : Calls Try.prog 47 #[.slice A0 l0.length c0, .int .i64 i] w (OpenPost ([], e) w) := by
  have HE := Aside0.mk he
  have e0 : (e != 0) = true := bne_iff_ne.2 h0
  have e1 : (e == 0) = false := beq_eq_false_iff_ne.2 h0
  clear he h0
  go_enter Try.func47, Try.ntmps47
  go_wp2_with (go_at_call 54; (with_reducible refine (merkle_place.calls _ _ _ _ HE.out).mono ?_); rintro e w' ⟨rfl, ⟨nd, rfl⟩⟩)
  go_ret2
  exact ⟨_, rfl, Kd.R_nil _ _ _ _ _, pw_below_drewN (Below.refl _ _) _⟩
set_option maxHeartbeats 1600000 in
set_option maxRecDepth 100000 in
theorem open_yes (A0 : Option Addr) (c0 : Nat) (l0 : List Int) (i : Nat) (w : World) (hr : Kd.C (Kd.int .u64) w A0 l0.length l0) (hc : l0.length ≤ c0) (hl : l0.length ≤ 4096) (hi : i < l0.length) :
    Calls Try.prog 47 #[.slice A0 l0.length c0, .int .i64 (i : Int)] w (OpenPost ((downN l0.length l0 i).reverse, 0) w) := by
  have HE := Aside0.mk (show merkle_place.f (l0.length : Int) (i : Int) = some 0 by unfold merkle_place.f; rw [if_neg (by omega), if_neg (by omega), if_neg (by omega)])
  have HR := Aside0.mk hr
  have HI := Aside0.mk (show l0.length ≤ c0 ∧ l0.length ≤ 4096 ∧ i < l0.length from ⟨hc, hl, hi⟩)
  clear hr hc hl hi
  obtain ⟨D, hD⟩ : ∃ D, D = downN l0.length l0 i := ⟨_, rfl⟩
  have HD := Aside0.mk hD
  clear hD
  go_enter Try.func47, Try.ntmps47
  go_wp2_with (go_at_call 54; (with_reducible refine (merkle_place.calls _ _ _ _ HE.out).mono ?_); rintro e w' ⟨rfl, ⟨nd, rfl⟩⟩)
  go_loopw [0, 1, 7] (fun v0 v1 v7 wr => ∃ (wq : World) (l : List Int) (A : Option Addr) (c j n : Nat) (acc : List Int) (vp : Value), wq = wr ∧ vp = v7 ∧ v0 = .slice A l.length c ∧ v1 = .int .i64 (j : Int) ∧ Aside0 (l.length ≤ c ∧ j < l.length ∧ l.length ≤ n ∧ acc.length + l.length ≤ 4096 ∧ Kd.C (Kd.int .u64) w A l.length l ∧ acc ++ downN n l j = D) ∧ Aside0 (Kd.R (Kd.int .u64) 22 wr w.heap.size (fun _ => True) vp acc) ∧ Aside0 (Below w.heap.size w wr)) (fun v0 _ _ _ => slenM v0)
  case atStart => exact ⟨_, l0, A0, c0, i, l0.length, [], _, rfl, rfl, rfl, rfl, ⟨HI.out.1, HI.out.2.2, Nat.le_refl _, by simp; exact HI.out.2.1, HR.out, HD.out.symm⟩, ⟨Kd.R_nil _ _ _ _ _⟩, ⟨pw_below_drewN (Below.refl _ _) _⟩⟩
  case round =>
    have HD0 := HD
    clear HR HI HE
    obtain ⟨wq, l, A, c, j, n, acc, vp, rfl, rfl, rfl, rfl, HF, HO, HB⟩ := hrel
    by_cases hlen : 1 < l.length
    · have hlenb : decide ((1 : Int) < (l.length : Int)) = true := decide_eq_true (by omega)
      obtain ⟨m, rfl⟩ : ∃ m, n = m + 1 := ⟨n - 1, by have := HF.out.2.2.1; omega⟩
      obtain ⟨lt, ht⟩ : ∃ x, x = l.take (half l.length) := ⟨_, rfl⟩
      obtain ⟨ld, hd⟩ : ∃ x, x = l.drop (half l.length) := ⟨_, rfl⟩
      have hh := half_range l.length (by omega)
      have HL := Aside0.mk (show lt.length = half l.length ∧ ld.length = l.length - half l.length ∧ lt.length ≤ m ∧ ld.length ≤ m ∧ acc.length + 1 + lt.length ≤ 4096 ∧ acc.length + 1 + ld.length ≤ 4096 by have h1 := HF.out.2.2.1; have h2 := HF.out.2.2.2.1; rw [ht, hd, List.length_take, List.length_drop]; omega)
      have HA : Aside0 (Calls Try.prog 57 #[.slice A l.length c] wq fun e w' => ∃ (A1 : Option Addr) (c1 : Nat), e = .returned (.tuple #[.slice A lt.length c, .slice A1 ld.length c1]) ∧ Aside0 (ld.length ≤ c1 ∧ lt.length ≤ c ∧ Kd.C (Kd.int .u64) w A1 ld.length ld ∧ Kd.C (Kd.int .u64) w A lt.length lt) ∧ Drawn0 wq w') := by
        refine ⟨(halves_calls A c l wq HF.out.1 (by omega) (by have := HF.out.2.2.2.1; omega)).mono ?_⟩
        rintro e w' ⟨A1, c1, h1, h2, h3, h4, h5, h6⟩
        rw [← ht] at h1 h3 h5
        rw [← hd] at h1 h2 h4
        exact ⟨A1, c1, h1, ⟨h2, h3, h4 w HF.out.2.2.2.2.1, h5 w HF.out.2.2.2.2.1⟩, h6⟩
      have HTD := Aside0.mk (show merkle_top.f ld = some (topN ld.length ld) by have := HL.out.2.2.2.2.2; unfold merkle_top.f; rw [if_pos (by omega)])
      have HTT := Aside0.mk (show merkle_top.f lt = some (topN lt.length lt) by have := HL.out.2.2.2.2.1; unfold merkle_top.f; rw [if_pos (by omega)])
      by_cases hj : j < lt.length
      · have hjb : decide (j < lt.length) = true := decide_eq_true hj
        have HD := Aside0.mk (show downN (m + 1) l j = topN ld.length ld :: downN m lt j by have h0 := HL.out.1; simp only [downN]; rw [if_neg (by omega), if_pos (by omega), ← ht, ← hd])
        clear ht hd hh hlen
        go_wp2_with (first | (go_at_call 57; refine HA.out.mono ?_; rintro e w' ⟨A1, c1, rfl, HC, ⟨nd, rfl⟩⟩) | (go_at_call 46; (with_reducible refine (merkle_top.calls _ _ ld _ _ ?s1 HC.out.1 HTD.out).mono ?_); (case s1 => exact Kd.C_drewN (Kd.C_below HC.out.2.2.1 HB.out) _); rintro e w' ⟨rfl, ⟨nd1, rfl⟩⟩) | (at_builtin; refine Kd.R_append (Kd.int .u64) (w0 := w) w.heap.size rfl (.tmp 31) (.tmp 34) 41 22 (.int .u64 0) 8 rfl Try.underlying41 info22h rfl (by decide) (by omega) vp acc (topN ld.length ld) [.int .u64 (topN ld.length ld)] (fun _ => True) (fun _ => False) rfl rfl rfl (fun _ hk => hk.elim) (fun _ _ => trivial) (Kd.R_drewN HO.out _) (pw_below_drewN HB.out _) ?aS ?aL ?_; (case aS => exact below_size (pw_below_drewN HB.out _)); (case aL => have := HL.out.2.2.2.2.2; omega); intro v2 w2 ho hb hg hat; clear hg hat; have HO2 := Aside0.mk ho; have HB2 := Aside0.mk hb; clear ho hb))
        refine ⟨⟨_, lt, A, c, j, m, acc ++ [topN ld.length ld], _, rfl, rfl, rfl, rfl, ⟨HC.out.2.1, hj, HL.out.2.2.1, ?_, HC.out.2.2.2, ?_⟩, HO2, HB2⟩, ?_⟩
        · have := HL.out.2.2.2.2.1
          rw [List.length_append]; simpa using this
        · have := HF.out.2.2.2.2.2
          rw [HD.out] at this
          rw [List.append_assoc]; exact this
        · have h1 := HL.out
          have h2 := HF.out.2.1
          show lt.length < l.length
          have h3 := half_range l.length
          have h4 := of_decide_eq_true hlenb
          omega
      · have hjb : decide (j < lt.length) = false := decide_eq_false hj
        have HD := Aside0.mk (show downN (m + 1) l j = topN lt.length lt :: downN m ld (j - lt.length) by have h0 := HL.out.1; simp only [downN]; rw [if_neg (by omega), if_neg (by omega), ← ht, ← hd, h0])
        have hjs : 0 ≤ (j : Int) - (lt.length : Int) := by omega
        have hjm : (j : Int) < 4096 := by have := HF.out; omega
        clear ht hd hh hlen
        go_wp2_with (first | (go_at_call 57; refine HA.out.mono ?_; rintro e w' ⟨A1, c1, rfl, HC, ⟨nd, rfl⟩⟩) | (go_at_call 46; (with_reducible refine (merkle_top.calls _ _ lt _ _ ?s1 HC.out.2.1 HTT.out).mono ?_); (case s1 => exact Kd.C_drewN (Kd.C_below HC.out.2.2.2 HB.out) _); rintro e w' ⟨rfl, ⟨nd1, rfl⟩⟩) | (at_builtin; refine Kd.R_append (Kd.int .u64) (w0 := w) w.heap.size rfl (.tmp 37) (.tmp 40) 41 22 (.int .u64 0) 8 rfl Try.underlying41 info22h rfl (by decide) (by omega) vp acc (topN lt.length lt) [.int .u64 (topN lt.length lt)] (fun _ => True) (fun _ => False) rfl rfl rfl (fun _ hk => hk.elim) (fun _ _ => trivial) (Kd.R_drewN HO.out _) (pw_below_drewN HB.out _) ?aS ?aL ?_; (case aS => exact below_size (pw_below_drewN HB.out _)); (case aL => have := HL.out.2.2.2.2.2; omega); intro v2 w2 ho hb hg hat; clear hg hat; have HO2 := Aside0.mk ho; have HB2 := Aside0.mk hb; clear ho hb))
        refine ⟨⟨_, ld, A1, c1, j - lt.length, m, acc ++ [topN lt.length lt], _, rfl, rfl, rfl, congrArg (Value.int .i64) (by omega), ⟨HC.out.1, ?_, HL.out.2.2.2.1, ?_, HC.out.2.2.1, ?_⟩, HO2, HB2⟩, ?_⟩
        · have := HL.out; have := HF.out.2.1; omega
        · have := HL.out.2.2.2.2.2
          rw [List.length_append]; simpa using this
        · have := HF.out.2.2.2.2.2
          rw [HD.out] at this
          rw [List.append_assoc]; exact this
        · have h1 := HL.out
          show ld.length < l.length
          have h3 := half_range l.length
          have h4 := of_decide_eq_true hlenb
          omega
    · have hlenb : decide ((1 : Int) < (l.length : Int)) = false := decide_eq_false (by omega)
      have hacc : acc = D := by
        have h := HF.out
        have e : downN n l j = [] := by
          cases n with
          | zero => rfl
          | succ n => simp only [downN]; rw [if_pos (by omega)]
        have := h.2.2.2.2.2
        rwa [e, List.append_nil] at this
      have HDD := Aside0.mk (hacc.trans HD0.out)
      clear hacc
      have hal : (acc.length : Int) ≤ 4096 := by have := HF.out.2.2.2.1; omega
      have hal1 : -1 ≤ (acc.length : Int) - 1 := by omega
      obtain ⟨a1, cp, rfl⟩ := Kd.R_slice HO.out
      clear HF hlen
      obtain ⟨N, hN⟩ : ∃ N, N = acc.length := ⟨_, rfl⟩
      rw [← hN] at hal hal1 HO ⊢
      have HN := Aside0.mk hN
      clear hN
      go_wp2
      go_loopw [10, 11] (fun v10 v11 wr => ∃ (wp : World) (a : Nat), wp = wr ∧ v10 = .int .i64 (a : Int) ∧ v11 = .int .i64 ((N : Int) - 1 - (a : Int)) ∧ Aside0 (2 * a ≤ N + 1 ∧ (a = 0 ∨ 2 * a ≤ N)) ∧ Aside0 (Kd.R (Kd.int .u64) 22 wr w.heap.size (fun _ => True) (.slice a1 N cp) (revTo acc a)) ∧ Aside0 (Below w.heap.size w wr)) (fun v10 _ _ => N - (intOf v10).toNat)
      case atStart => exact ⟨_, 0, rfl, rfl, congrArg (Value.int .i64) (by omega), ⟨by omega, .inl rfl⟩, ⟨by rw [revTo_zero]; exact HO.out⟩, HB⟩
      case round =>
        clear HO HB
        obtain ⟨wp, a, rfl, rfl, rfl, HA, HR, HB⟩ := hrel
        have ha := HA.out
        by_cases hlt : (a : Int) < (N : Int) - 1 - (a : Int)
        · obtain ⟨g, cap, hv, hg1, hg2, _⟩ := Kd.R_form HR.out (by rw [revTo_length, ← HN.out]; omega)
          obtain ⟨rfl, h2, rfl⟩ := Value.slice.inj hv
          obtain ⟨xa, hxa⟩ : ∃ x, x = rd (revTo acc a) (a : Int) := ⟨_, rfl⟩
          obtain ⟨xb, hxb⟩ : ∃ x, x = rd (revTo acc a) ((N - 1 - a : Nat) : Int) := ⟨_, rfl⟩
          have hca : wp.cell? ⟨g, a, none⟩ = some (.int .u64 xa) := by rw [hxa]; exact (Kd.R_celln 0 HR.out (a : Int) (by omega) (by omega)).1
          have hfa : wp.frozen? ⟨g, a, none⟩ = false := (Kd.R_celln 0 HR.out (a : Int) (by omega) (by omega)).2
          have hcb : wp.cell? ⟨g, N - 1 - a, none⟩ = some (.int .u64 xb) := by rw [hxb]; exact (Kd.R_celln 0 HR.out ((N - 1 - a : Nat) : Int) (by omega) (by omega)).1
          have hfb : wp.frozen? ⟨g, N - 1 - a, none⟩ = false := (Kd.R_celln 0 HR.out ((N - 1 - a : Nat) : Int) (by omega) (by omega)).2
          have HX := Aside0.mk hxa
          have HY := Aside0.mk hxb
          have hb0 : (a : Int) ≤ (N : Int) - 1 := by omega
          have hb1 : (N : Int) - 1 - (a : Int) < (N : Int) := by omega
          have hb2 : (a : Int) < (N : Int) := by omega
          have hne : a ≠ N - 1 - a := by omega
          have hne' : N - 1 - a ≠ a := by omega
          clear hv h2 hxa hxb ha
          go_wp2
          go_region
          all_goals go_wp2
          have h1 := Kd.R_putn HR.out ((a : Nat) : Int) xb
          have h2 := Kd.R_putn h1 ((N - 1 - a : Nat) : Int) xa
          rw [HX.out, HY.out, revTo_step acc a N HN.out (by omega), ← HX.out, ← HY.out] at h2
          refine ⟨⟨_, a + 1, rfl, by go_num, congrArg (Value.int .i64) (by omega), ⟨by omega, .inr (by omega)⟩, ⟨Kd.R_drew h2⟩, ⟨below_drew1 ((HB.out.setCell (p := ⟨g, a, none⟩) hg1 _).setCell (p := ⟨g, N - 1 - a, none⟩) hg1 _)⟩⟩, by simp [intOf]; omega⟩
        · go_wp2
          go_ret2
          refine ⟨_, rfl, ?_, HB.out⟩
          have := HR.out
          rw [revTo_all acc a (by have := HN.out; omega)] at this
          have h9 := HDD.out
          rw [← h9]
          exact this
theorem merkle_Open.calls (A0 : Option Addr) (c0 : Nat) (l0 : List Int) (a1 : Int) (r1 : List Int) (r2 : Int) (w : World) (hr0 : Kd.C (Kd.int .u64) w A0 l0.length l0) (hc0 : l0.length ≤ c0) (h : merkle_Open.f l0 a1 = some (r1, r2)) :
    Calls Try.prog 47 #[.slice A0 l0.length c0, .int .i64 a1] w fun e w' => ∃ v0_ : Value, e = .returned (.tuple #[v0_, .int .i64 r2]) ∧ Kd.R (Kd.int .u64) 22 w' w.heap.size (fun _ => True) v0_ r1 ∧ Below w.heap.size w w' := by
  unfold merkle_Open.f at h
  by_cases c1 : (l0.length : Int) > 4096
  · rw [if_pos c1] at h
    cases h
    exact (open_no A0 c0 l0 a1 2 w (by unfold merkle_place.f; rw [if_pos c1]) (by decide)).mono fun e w' hp => hp
  rw [if_neg c1] at h
  by_cases c2 : a1 < 0
  · rw [if_pos c2] at h
    cases h
    exact (open_no A0 c0 l0 a1 1 w (by unfold merkle_place.f; rw [if_neg c1, if_pos c2]) (by decide)).mono fun e w' hp => hp
  rw [if_neg c2] at h
  by_cases c3 : a1 ≥ (l0.length : Int)
  · rw [if_pos c3] at h
    cases h
    exact (open_no A0 c0 l0 a1 1 w (by unfold merkle_place.f; rw [if_neg c1, if_neg c2, if_pos c3]) (by decide)).mono fun e w' hp => hp
  rw [if_neg c3] at h
  cases h
  obtain ⟨i, rfl⟩ := Int.eq_ofNat_of_zero_le (show 0 ≤ a1 by omega)
  exact (open_yes A0 c0 l0 i w hr0 hc0 (by omega) (by omega)).mono fun e w' hp => hp

/-! ### parolelaw04_open: function 34 -/
def parolelaw04_open.f (l0 : List Int) (a1 : Int) : Option (List Int × Int) := (merkle_Open.f l0 a1).bind fun bt106 => (some (bt106.1, bt106.2))
set_option maxHeartbeats 8000000 in
set_option maxRecDepth 100000 in
theorem parolelaw04_open.calls (A0 : Option Addr) (c0 : Nat) (l0 : List Int) (a1 : Int) (r1 : List Int) (r2 : Int) (w : World) (hr0 : Kd.C (Kd.int .u64) w A0 l0.length l0) (hc0 : l0.length ≤ c0) (h : parolelaw04_open.f l0 a1 = some (r1, r2)) :
    Calls Try.prog 34 #[.slice A0 l0.length c0, .int .i64 a1] w fun e w' => ∃ v0_ : Value, e = .returned (.agg #[v0_, .int .i64 r2]) ∧ Kd.R (Kd.int .u64) 22 w' w.heap.size (fun _ => True) v0_ r1 ∧ Below w.heap.size w w' := by
  have hu46 := Try.underlying46
  have HR0 := Aside0.mk hr0
  have HC0 := Aside0.mk hc0
  clear hr0 hc0
  have HB := Aside0.mk (Below.refl w.heap.size w)
  have H : ((merkle_Open.f l0 a1).bind fun bt106 => (some (bt106.1, bt106.2))) = some (r1, r2) := h
  clear h
  replace H := Option.bind_eq_some_iff.mp H
  obtain ⟨⟨t106, t107⟩, A30, H⟩ := H
  replace H : (some (t106, t107)) = some (r1, r2) := H
  have A3 := Aside0.mk A30
  clear A30
  simp only [Option.some.injEq, Prod.mk.injEq] at H
  obtain ⟨rfl, rfl⟩ := H
  go_enter Try.func34, Try.ntmps34
  go_wp2_with (first | ((with_reducible refine gate_dst (N := 4) rfl ?_); refine box_event ?hg (N := 4) ?hd (cs := #[.slice none 0 0, .int .i64 0]) (t := 46) ?hr ?_; (case hd => rfl); (case hg => rfl); (case hr => first | (go_simp; done) | (go_simp; rfl)); intro gb105 hg w4 hbox hb; have n0_ := Aside0.mk (below_step (by repeat (first | (with_reducible first | exact HB.out | apply below_alloc | apply pw_below_drewN | apply below_drew1) | exact HB.out)) hb); have n1_ := Aside0.mk (hbox); have n2_ := Aside0.mk ((by rw [hg]; exact (below_size (by repeat (first | (with_reducible first | exact HB.out | apply below_alloc | apply pw_below_drewN | apply below_drew1) | exact HB.out))) : w.heap.size ≤ gb105)); have n3_ := Aside0.mk ((by rw [hg]; exact (below_size (by repeat (first | (with_reducible first | exact HB.out | apply below_alloc | apply pw_below_drewN | apply below_drew1) | exact HB.out))) : w.heap.size ≤ gb105)); clear HB; have HB := n0_; have BK105 := n1_; have GW105 := n2_; have GE105 := n3_; clear n0_ n1_ n2_ n3_; clear hb hbox hg) | ((with_reducible refine gate_callee (f := 47) rfl ?_); refine goesL_ (some 10) rfl rfl Try.func47 (by kernel_rfl) rfl #[.slice A0 l0.length c0, .int .i64 a1] rfl (by (try simp only [List.map_toArray, List.map_cons, List.map_nil]); first | done | rfl | (simp only [List.length_drop, List.length_take]; rfl)) ?_; (with_reducible refine (merkle_Open.calls _ _ l0 a1 t106 t107 _ ?side1 ?side2 A3.out).mono ?_); (case side1 => repeat (first | exact (Kd.C_below HR0.out HB.out) | (with_reducible refine Kd.C_alloc ?_ _) | (with_reducible refine Kd.C_drewN ?_ _) | (with_reducible refine Kd.C_drew ?_))); (case side2 => exact HC0.out); rintro e w5 ⟨v108, rfl, ho0, hb⟩; refine ⟨_, rfl, ?_⟩; have n0_ := Aside0.mk (Kd.R_lower ho0 (below_size (by repeat (first | (with_reducible first | exact HB.out | apply below_alloc | apply pw_below_drewN | apply below_drew1 | refine below_set ?_ GE105.out) | exact HB.out)))); have n1_ := Aside0.mk (blk_below (g := gb105) (o := .cells #[.slice none 0 0, .int .i64 0] 46 (0, 0)) (by (with_reducible repeat (first | refine blk_drewN ?_ _ | refine blk_drew ?_ | refine blk_alloc ?_ _)); exact BK105.out) hb); have n2_ := Aside0.mk (below_step (by repeat (first | (with_reducible first | exact HB.out | apply below_alloc | apply pw_below_drewN | apply below_drew1 | refine below_set ?_ GE105.out) | exact HB.out)) hb); clear BK105; clear HB; have HO109 := n0_; have BK105 := n1_; have HB := n2_; clear n0_ n1_ n2_; (try clear hb); (try clear hb2); (try clear hk); (try clear hi); (try clear ho0); obtain ⟨Ao6, co6, eo6⟩ := Kd.R_slice HO109.out; subst eo6; have hcz7_0 : w5.cell? ⟨gb105, 0, none⟩ = some (.slice none 0 0) := (blk_cell BK105.out 0).trans rfl; have hcz7_1 : w5.cell? ⟨gb105, 1, none⟩ = some (.int .i64 0) := (blk_cell BK105.out 1).trans rfl; have hfz7_0 := blk_frozen BK105.out 0; have hfz7_1 := blk_frozen BK105.out 1))
  refine bodyPost_ret (results_cell_row rfl _ _ gb105 46 #[.slice Ao6 t106.length co6, .int .i64 t107] (0, 0) _ rfl (by (with_reducible repeat (first | refine blk_drewN ?_ _ | refine blk_drew ?_ | refine blk_alloc ?_ _)); refine blk_put (cs := #[.slice Ao6 t106.length co6, .int .i64 0]) ?_ 1 _ rfl; (with_reducible repeat (first | refine blk_drewN ?_ _ | refine blk_drew ?_ | refine blk_alloc ?_ _)); refine blk_put (cs := #[.slice none 0 0, .int .i64 0]) ?_ 0 _ rfl; (with_reducible repeat (first | refine blk_drewN ?_ _ | refine blk_drew ?_ | refine blk_alloc ?_ _)); exact BK105.out) Try.underlying46 rfl (by kernel_rfl)) rfl ?_
  exact ⟨_, by first | rfl | (simp [errW_none, errW_some] <;> rfl) | (simp [*, errW_none, errW_some] <;> rfl), by (with_reducible repeat (first | apply Kd.R_alloc | apply Kd.R_drewN | apply Kd.R_drew)); exact Kd.R_mono (Kd.R_far (p := ⟨gb105, 1, none⟩) (Kd.R_far (p := ⟨gb105, 0, none⟩) (Kd.R_types HO109.out BK105.out (by decide)) (fun _ hk => by first | exact hk.2 | exact hk | exact ⟨hk.2, hk.1⟩ | simp_all) (.slice Ao6 t106.length co6)) (fun _ hk => by first | exact hk.2 | exact hk | exact ⟨hk.2, hk.1⟩ | simp_all) (.int .i64 t107)) (fun _ hk => trivial), by repeat (first | (with_reducible first | exact HB.out | apply below_alloc | apply pw_below_drewN | apply below_drew1 | refine below_set ?_ GE105.out) | exact HB.out)⟩

-- NOT PRINTED: function 59 (merkle_sides)

end Go.Proofs.Ytikicibbbeofnaa.MF
