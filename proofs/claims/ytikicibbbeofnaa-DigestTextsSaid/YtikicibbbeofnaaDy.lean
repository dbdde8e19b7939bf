/- Texts of digests: how the program's functions and the reference's agree. -/
import Derived.Test.YtikicibbbeofnaaDx
namespace Go.Proofs.Ytikicibbbeofnaa.Dh
open Go.RowKit Go.Proofs.YtikicibbbeofnaaW.PrintWords Go.Proofs.YtikicibbbeofnaaW.PrintLast Go.Proofs.YtikicibbbeofnaaW.PrintMore Go.Proofs.Ytikicibbbeofnaa.D Go.Proofs.Ytikicibbbeofnaa.Dg
theorem F_wrap64' (n : Int) : F (wrap64 n) = F n := by
  apply T_inj
  rw [T_F, T_F]
  unfold wrap64
  omega
theorem and_i64 (a b : Int) : Go.bits .and .i64 a b = IntKind.i64.wrap (T (F a &&& F b)) := rfl
theorem ref_digit (x i : Nat) (hi : i < 16) (hx : x < 18446744073709551616) :
    Go.bits .and .i64 (wrap64 (shr .u64 (x : Int) (IntKind.u64.wrap (wrap64 (60 - (wrap64 (4 * (i : Int)))))))) 15 = (hxd x i : Nat) := by
  have e1 : wrap64 (4 * (i : Int)) = ((4 * i : Nat) : Int) := by unfold wrap64; omega
  have e2 : wrap64 (60 - ((4 * i : Nat) : Int)) = ((60 - 4 * i : Nat) : Int) := by unfold wrap64; omega
  have e3 : IntKind.u64.wrap ((60 - 4 * i : Nat) : Int) = ((60 - 4 * i : Nat) : Int) := by rw [wrap_T, T_F_self (by omega) (by omega)]
  have e4 : shr .u64 (x : Int) ((60 - 4 * i : Nat) : Int) = (x : Int) / 2 ^ (60 - 4 * i) := by
    unfold shr
    rw [Int.toNat_natCast, Nat.min_eq_left (by simp [IntKind.bits]; omega)]
  rw [e1, e2, e3, e4]
  have h := hexi_nat x i hi hx
  unfold hexi at h
  rw [and_T] at h
  rw [and_i64, F_wrap64', h, IntKind.wrap_i64]
  have : hxd x i < 16 := Nat.mod_lt _ (by decide)
  omega
theorem hex_extract (d : Nat) (h : d < 16) : hexc.extract d (d + 1) = hs [d] := by
  have : d = 0 ∨ d = 1 ∨ d = 2 ∨ d = 3 ∨ d = 4 ∨ d = 5 ∨ d = 6 ∨ d = 7 ∨ d = 8 ∨ d = 9 ∨ d = 10 ∨ d = 11 ∨ d = 12 ∨ d = 13 ∨ d = 14 ∨ d = 15 := by omega
  rcases this with rfl | rfl | rfl | rfl | rfl | rfl | rfl | rfl | rfl | rfl | rfl | rfl | rfl | rfl | rfl | rfl <;> decide +kernel
theorem hs_data (a : List Nat) : (hs a).data = ((a.map hch).map fun n => UInt8.ofNat n.toNat).toArray := rfl
theorem hs_append (a b : List Nat) : hs a ++ hs b = hs (a ++ b) := by
  have : (hs a ++ hs b).data = (hs (a ++ b)).data := by
    rw [ByteArray.data_append, hs_data, hs_data, hs_data, List.map_append, List.map_append, List.append_toArray]
  generalize hs a ++ hs b = u at this
  generalize hs (a ++ b) = v at this
  cases u; cases v
  exact congrArg ByteArray.mk this
theorem hexc_eq : (⟨#[48, 49, 50, 51, 52, 53, 54, 55, 56, 57, 97, 98, 99, 100, 101, 102]⟩ : ByteArray) = hexc := rfl
theorem rtext_l0 (x : Nat) (hx : x < 18446744073709551616) (d : Nat) : ∀ (k i : Nat), 16 - i = d → i ≤ 16 → d < k →
    paroleref03_Text.l0 k (x : Int) (hs ((List.range i).map (hxd x))) i = some (hs (hdigs x)) := by
  induction d with
  | zero =>
    intro k i hd hi hk
    obtain ⟨k, rfl⟩ : ∃ m, k = m + 1 := ⟨k - 1, by omega⟩
    obtain rfl : i = 16 := by omega
    simp only [paroleref03_Text.l0]
    rw [if_neg (by decide)]; rfl
  | succ d ih =>
    intro k i hd hi hk
    obtain ⟨k, rfl⟩ : ∃ m, k = m + 1 := ⟨k - 1, by omega⟩
    simp only [paroleref03_Text.l0]
    have hlt : hxd x i < 16 := Nat.mod_lt _ (by decide)
    rw [ref_digit x i (by omega) hx]
    have e1 : wrap64 (4 * (i : Int)) = ((4 * i : Nat) : Int) := by unfold wrap64; omega
    have e2 : wrap64 (60 - ((4 * i : Nat) : Int)) = ((60 - 4 * i : Nat) : Int) := by unfold wrap64; omega
    have e3 : IntKind.u64.wrap ((60 - 4 * i : Nat) : Int) = ((60 - 4 * i : Nat) : Int) := by rw [wrap_T, T_F_self (by omega) (by omega)]
    have e4 : wrap64 ((hxd x i : Int) + 1) = ((hxd x i + 1 : Nat) : Int) := by unfold wrap64; omega
    have e6 : wrap64 ((i : Int) + 1) = ((i + 1 : Nat) : Int) := by unfold wrap64; omega
    rw [e1, e2, e3, e4, e6, hexc_eq, Int.toNat_natCast, Int.toNat_natCast, hex_extract _ hlt, hs_append, hs_size, hs_size]
    clear e1 e2 e3 e4 e6
    rw [if_pos (by omega), if_pos (by omega), if_pos (by omega), if_pos (by omega), if_pos (by omega), if_pos (by rw [List.length_map, List.length_range, List.length_singleton]; omega)]
    have := ih k (i + 1) (by omega) (by omega) (by omega)
    rw [List.range_succ, List.map_append, List.map_cons, List.map_nil] at this
    rw [this]
theorem rtext_f (x : Nat) (hx : x < 18446744073709551616) (k : Nat) (hk : 16 < k) : paroleref03_Text.f k (x : Int) = some (hs (hdigs x)) :=
  rtext_l0 x hx 16 k 0 (by omega) (by omega) hk
theorem text_f (x : Nat) (hx : x < 18446744073709551616) : digest_Text.f (x : Int) = some (hs (hdigs x)) := by
  unfold digest_Text.f
  rw [hext_nat x hx]
/-! reading -/
def vres (c : Int) : Int × Bool := match hv c with | some d => ((d : Int), true) | none => (0, false)
theorem value_f (c : Int) (h0 : 0 ≤ c) (h1 : c ≤ 255) (k : Nat) : digest_value.f (k + 1) c = some (vres c) := by
  unfold digest_value.f
  by_cases a : 48 ≤ c
  · rw [if_pos a]
    simp only [digest_value.j0]
    by_cases b : c ≤ 57
    · have hh : hv c = some (c - 48).toNat := by unfold hv; rw [if_pos ⟨a, b⟩]
      unfold vres
      rw [hh, decide_eq_true b, if_pos rfl]
      simp only [Option.some.injEq, Prod.mk.injEq, and_true]
      omega
    · rw [decide_eq_false b, if_neg (by simp)]
      by_cases e : 97 ≤ c
      · rw [if_pos e]
        by_cases g : c ≤ 102
        · have hh : hv c = some (c - 87).toNat := by unfold hv; rw [if_neg (by omega), if_pos ⟨e, g⟩]
          unfold vres
          rw [hh, if_pos g]
          simp only [Option.some.injEq, Prod.mk.injEq, and_true]
          omega
        · have hh : hv c = none := by unfold hv; rw [if_neg (by omega), if_neg (by omega)]
          unfold vres
          rw [hh, if_neg g]
      · have hh : hv c = none := by unfold hv; rw [if_neg (by omega), if_neg (by omega)]
        unfold vres
        rw [hh, if_neg e]
  · have hh : hv c = none := by unfold hv; rw [if_neg (by omega), if_neg (by omega)]
    unfold vres
    rw [hh, if_neg a]
    simp only [digest_value.j0]
    rw [if_neg (by simp), if_neg (by omega)]
theorem or_lo (x d : Nat) (hd : d < 16) (hx : x < 16 ^ 15) : Go.bits .or .u64 (IntKind.u64.wrap ((x : Int) * 16)) (d : Int) = ((x * 16 + d : Nat) : Int) := by
  have e1 : (x : Int) * 16 = ((x * 16 : Nat) : Int) := by omega
  have hx' : x * 16 < 18446744073709551616 := by omega
  rw [e1, wrap_T, T_F_self (by omega) (by omega), or_T]
  have e2 : F ((x * 16 : Nat) : Int) = BitVec.ofNat 64 (x * 16) := by unfold F; exact BitVec.ofInt_natCast 64 _
  have e3 : F ((d : Nat) : Int) = BitVec.ofNat 64 d := by unfold F; exact BitVec.ofInt_natCast 64 d
  rw [e2, e3]
  unfold T
  have := Nat.two_pow_add_eq_or_of_lt (i := 4) (b := d) (by omega) x
  rw [BitVec.toNat_or, BitVec.toNat_ofNat, BitVec.toNat_ofNat, Nat.mod_eq_of_lt (by omega), Nat.mod_eq_of_lt (by omega), Nat.mul_comm x 16, show (16 : Nat) = 2 ^ 4 from rfl, ← this]
def pfold (s : ByteArray) : Nat → Nat → Nat → Option Nat
  | 0, _, X => some X
  | n + 1, i, X => match hv (bt s i) with
    | some d => pfold s n (i + 1) (X * 16 + d)
    | none => none
def pres : Option Nat → Int × Int
  | some Y => ((Y : Int), 0)
  | none => (0, 3)
theorem pow16_le (i : Nat) (h : i < 16) : 16 ^ i ≤ 16 ^ 15 := Nat.pow_le_pow_right (by decide) (by omega)
theorem parse_l0 (s : ByteArray) (h16 : s.size = 16) (d : Nat) : ∀ (k i X : Nat), 16 - i = d → i ≤ 16 → d + 1 < k → X < 16 ^ i →
    digest_Parse.l0 k s (X : Int) 16 i = some (pres (pfold s d i X)) := by
  induction d with
  | zero =>
    intro k i X hd hi hk _
    obtain ⟨k, rfl⟩ : ∃ m, k = m + 1 := ⟨k - 1, by omega⟩
    simp only [digest_Parse.l0]
    rw [if_neg (by omega)]; rfl
  | succ d ih =>
    intro k i X hd hi hk hX
    obtain ⟨k, rfl⟩ : ∃ m, k = m + 1 + 1 := ⟨k - 2, by omega⟩
    have hr := bt_range s i
    rw [digest_Parse.l0, if_pos (by omega), if_pos (by omega), if_pos (by omega), value_f _ hr.1 hr.2 k, Option.bind_some]
    cases hc : hv (bt s i) with
    | none =>
      have h1 : vres (bt s i) = (0, false) := by unfold vres; rw [hc]
      have h2 : pfold s (d + 1) i X = none := by simp only [pfold, hc]
      rw [h1, h2, if_neg (by simp)]; rfl
    | some e =>
      have h1 : vres (bt s i) = ((e : Int), true) := by unfold vres; rw [hc]
      have h2 : pfold s (d + 1) i X = pfold s d (i + 1) (X * 16 + e) := by simp only [pfold, hc]
      have he := hv_lt hc
      have e6 : wrap64 ((i : Int) + 1) = ((i + 1 : Nat) : Int) := by unfold wrap64; omega
      have hp := pow16_le i (by omega)
      rw [h1, h2, if_pos rfl, or_lo X e he (by omega), e6]
      exact ih (k + 1) (i + 1) (X * 16 + e) (by omega) (by omega) (by omega) (by rw [Nat.pow_succ]; omega)
theorem parse_f (s : ByteArray) (k : Nat) (hk : 17 < k) : digest_Parse.f k s = some (if s.size = 16 then pres (pfold s 16 0 0) else (0, 3)) := by
  unfold digest_Parse.f
  by_cases h : s.size = 16
  · have h' : (s.size : Int) = 16 := by omega
    rw [if_pos h, h', if_pos rfl]
    exact parse_l0 s h 16 k 0 0 (by omega) (by omega) (by omega) (by decide)
  · rw [if_neg h, if_neg (by omega)]
theorem parsed_f (s : ByteArray) (k : Nat) (hk : 17 < k) : parolelaw03_parsed.f k s = some (if s.size = 16 then pres (pfold s 16 0 0) else (0, 3)) := by
  unfold parolelaw03_parsed.f
  rw [parse_f s k hk]; rfl
theorem pfold_some (s : ByteArray) : ∀ (n i X Y : Nat), pfold s n i X = some Y → ∃ ds : List Nat, ds.length = n ∧ (∀ d ∈ ds, d < 16) ∧ (∀ (j : Nat) (hj : j < ds.length), bt s ((i + j : Nat) : Int) = hch ds[j]) ∧ Y = ds.foldl (fun v d => v * 16 + d) X
  | 0, i, X, Y, h => ⟨[], rfl, by simp, by simp, (Option.some.inj h).symm⟩
  | n + 1, i, X, Y, h => by
    simp only [pfold] at h
    cases hc : hv (bt s i) with
    | none => rw [hc] at h; cases h
    | some d =>
      rw [hc] at h
      obtain ⟨ds, hl, hlt, hb, rfl⟩ := pfold_some s n (i + 1) _ Y h
      refine ⟨d :: ds, by simp [hl], ?_, ?_, rfl⟩
      · intro e he
        rcases List.mem_cons.1 he with rfl | he
        · exact hv_lt hc
        · exact hlt e he
      · intro j hj
        cases j with
        | zero => exact hv_inv hc
        | succ j =>
          have := hb j (by simpa using hj)
          rw [show i + 1 + j = i + (j + 1) from by omega] at this
          exact this
theorem pfold_hs (s : ByteArray) : ∀ (ds : List Nat) (i X : Nat), (∀ d ∈ ds, d < 16) → (∀ (j : Nat) (hj : j < ds.length), bt s ((i + j : Nat) : Int) = hch ds[j]) → pfold s ds.length i X = some (ds.foldl (fun v d => v * 16 + d) X)
  | [], i, X, _, _ => rfl
  | d :: ds, i, X, h, hb => by
    have h0 := hb 0 (by simp)
    rw [Nat.add_zero] at h0
    have h1 : hv (bt s i) = some d := by rw [h0]; exact hv_hch d (h d (by simp))
    show pfold s (ds.length + 1) i X = _
    simp only [pfold, h1]
    exact pfold_hs s ds (i + 1) _ (fun e he => h e (List.mem_cons_of_mem _ he)) (fun j hj => by have := hb (j + 1) (by simpa using hj); rw [show i + (j + 1) = i + 1 + j from by omega] at this; exact this)
/-- what reading finds in a text of sixteen digits -/
theorem parse_digits (ds : List Nat) (h : ∀ d ∈ ds, d < 16) (hl : ds.length = 16) : pfold (hs ds) 16 0 0 = some (hfold ds) := by
  have := pfold_hs (hs ds) ds 0 0 h (fun j hj => by rw [Nat.zero_add]; exact bt_hs ds j hj)
  rw [hl] at this
  exact this
theorem parse_found {s : ByteArray} (h16 : s.size = 16) {Y : Nat} (h : pfold s 16 0 0 = some Y) : s = hs (hdigs Y) ∧ Y < 18446744073709551616 := by
  obtain ⟨ds, hl, hlt, hb, hY⟩ := pfold_some s 16 0 0 Y h
  have hs' : s = hs ds := hs_of (by rw [h16, hl]) (fun j hj => by have := hb j hj; rw [Nat.zero_add] at this; exact this)
  have hY' : Y = hfold ds := hY
  subst hY'
  refine ⟨by rw [hdigs_hfold ds hlt hl]; exact hs', ?_⟩
  have := hfold_lt ds hlt
  rw [hl] at this
  exact this
theorem parse_text (x : Nat) (hx : x < 18446744073709551616) : pfold (hs (hdigs x)) 16 0 0 = some x := by
  rw [parse_digits _ (hdigs_lt x) (hdigs_length x), hfold_hdigs x hx]
end Go.Proofs.Ytikicibbbeofnaa.Dh
