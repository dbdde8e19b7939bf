/- Texts of digests: what the printed functions write and read. -/
import Derived.Test.YtikicibbbeofnaaDh
import Derived.Test.YtikicibbbeofnaaD8
namespace Go.Proofs.Ytikicibbbeofnaa.Dh
open Go.RowKit Go.Proofs.YtikicibbbeofnaaW.PrintWords Go.Proofs.YtikicibbbeofnaaW.PrintLast Go.Proofs.YtikicibbbeofnaaW.PrintMore Go.Proofs.Ytikicibbbeofnaa.D Go.Proofs.Ytikicibbbeofnaa.Dg
theorem loop_eq (s : ByteArray) (n : Nat) : ∀ (i : Nat) (r : List UInt8), s.size - i = n → ByteArray.toList.loop s i r = r.reverse ++ s.data.toList.drop i := by
  induction n with
  | zero =>
    intro i r h
    have hs : s.data.toList.length = s.size := by rw [Array.length_toList]; rfl
    rw [ByteArray.toList.loop, if_neg (by omega), List.drop_of_length_le (by omega), List.append_nil]
  | succ n ih =>
    intro i r h
    have hs : s.data.toList.length = s.size := by rw [Array.length_toList]; rfl
    have hl : i < s.data.toList.length := by omega
    rw [ByteArray.toList.loop, if_pos (by omega), ih (i + 1) _ (by omega), List.reverse_cons, List.append_assoc, List.drop_eq_getElem_cons hl]
    have hi : i < s.data.size := by rw [Array.length_toList] at hl; exact hl
    have : s.get! i = s.data.toList[i] := by
      show s.data[i]! = _
      rw [getElem!_pos s.data i hi]
      simp
    rw [this]; rfl
theorem toList_data (s : ByteArray) : s.toList = s.data.toList := by
  unfold ByteArray.toList
  rw [loop_eq s s.size 0 [] (by omega)]
  simp
theorem toList_inj {s t : ByteArray} (h : s.toList = t.toList) : s = t := by
  rw [toList_data, toList_data] at h
  cases s; cases t
  simpa using h
/-- digit i of the sixteen of a number -/
def hxd (x i : Nat) : Nat := x / 16 ^ (15 - i) % 16
theorem pow_2_16 (i : Nat) (hi : i < 16) : 2 ^ (60 - 4 * i) = 16 ^ (15 - i) := by
  rw [show 60 - 4 * i = 4 * (15 - i) from by omega, Nat.pow_mul]
theorem hexi_nat (x i : Nat) (hi : i < 16) (hx : x < 18446744073709551616) : hexi (x : Int) i = (hxd x i : Nat) := by
  unfold hexi hxd
  have e : (x : Int) / 2 ^ (60 - 4 * i) = ((x / 16 ^ (15 - i) : Nat) : Int) := by
    rw [Int.natCast_ediv, ← pow_2_16 i hi, Int.natCast_pow]; rfl
  rw [e, and_T]
  have hd : x / 16 ^ (15 - i) < 18446744073709551616 := Nat.lt_of_le_of_lt (Nat.div_le_self _ _) hx
  have e2 : F ((x / 16 ^ (15 - i) : Nat) : Int) = BitVec.ofNat 64 (x / 16 ^ (15 - i)) := by unfold F; exact BitVec.ofInt_natCast 64 _
  have e3 : F 15 = BitVec.ofNat 64 15 := rfl
  rw [e2, e3]
  unfold T
  rw [BitVec.toNat_and, BitVec.toNat_ofNat, BitVec.toNat_ofNat, Nat.mod_eq_of_lt (by omega : x / 16 ^ (15 - i) < 2 ^ 64), show 15 % 2 ^ 64 = 2 ^ 4 - 1 from rfl, Nat.and_two_pow_sub_one_eq_mod]
/-- the byte of a digit -/
def hch (d : Nat) : Int := bt hexc (d : Int)
theorem hch_range (d : Nat) : 0 ≤ hch d ∧ hch d ≤ 255 := bt_range _ _
/-- the value of a byte that is a digit -/
def hv (c : Int) : Option Nat := if 48 ≤ c ∧ c ≤ 57 then some (c - 48).toNat else if 97 ≤ c ∧ c ≤ 102 then some (c - 87).toNat else none
theorem hv_hch (d : Nat) (h : d < 16) : hv (hch d) = some d := by
  have : d = 0 ∨ d = 1 ∨ d = 2 ∨ d = 3 ∨ d = 4 ∨ d = 5 ∨ d = 6 ∨ d = 7 ∨ d = 8 ∨ d = 9 ∨ d = 10 ∨ d = 11 ∨ d = 12 ∨ d = 13 ∨ d = 14 ∨ d = 15 := by omega
  rcases this with rfl | rfl | rfl | rfl | rfl | rfl | rfl | rfl | rfl | rfl | rfl | rfl | rfl | rfl | rfl | rfl <;> rfl
theorem hv_lt {c : Int} {v : Nat} (h : hv c = some v) : v < 16 := by
  unfold hv at h
  split at h
  · cases h; omega
  · split at h
    · cases h; omega
    · cases h
theorem hv_inv {c : Int} {v : Nat} (h : hv c = some v) : c = hch v := by
  have h0 := h
  unfold hv at h
  split at h
  · rename_i g
    cases h
    obtain ⟨n, rfl⟩ : ∃ n : Nat, c = n := ⟨c.toNat, by omega⟩
    have : n = 48 ∨ n = 49 ∨ n = 50 ∨ n = 51 ∨ n = 52 ∨ n = 53 ∨ n = 54 ∨ n = 55 ∨ n = 56 ∨ n = 57 := by omega
    rcases this with rfl | rfl | rfl | rfl | rfl | rfl | rfl | rfl | rfl | rfl <;> rfl
  · split at h
    · rename_i g
      cases h
      obtain ⟨n, rfl⟩ : ∃ n : Nat, c = n := ⟨c.toNat, by omega⟩
      have : n = 97 ∨ n = 98 ∨ n = 99 ∨ n = 100 ∨ n = 101 ∨ n = 102 := by omega
      rcases this with rfl | rfl | rfl | rfl | rfl | rfl <;> rfl
    · cases h
theorem hv_iff {c : Int} (d : Nat) (h : d < 16) : c = hch d ↔ hv c = some d := ⟨fun e => by rw [e, hv_hch d h], hv_inv⟩
/-! numbers and their digits -/
def hfold (l : List Nat) : Nat := l.foldl (fun v d => v * 16 + d) 0
theorem hfold_snoc (l : List Nat) (d : Nat) : hfold (l ++ [d]) = hfold l * 16 + d := by unfold hfold; rw [List.foldl_append]; rfl
theorem snoc_ind {α : Type} {p : List α → Prop} (h0 : p []) (h1 : ∀ l d, p l → p (l ++ [d])) (l : List α) : p l := by
  have : ∀ m : List α, p m.reverse := by
    intro m
    induction m with
    | nil => exact h0
    | cons a m ih => rw [List.reverse_cons]; exact h1 _ _ ih
  have h := this l.reverse
  rwa [List.reverse_reverse] at h
theorem hfold_lt (l : List Nat) : (∀ d ∈ l, d < 16) → hfold l < 16 ^ l.length := by
  refine snoc_ind (p := fun l => (∀ d ∈ l, d < 16) → hfold l < 16 ^ l.length) (fun _ => by decide) (fun l d ih h => ?_) l
  · rw [hfold_snoc, List.length_append, List.length_singleton, Nat.pow_succ]
    have h1 := ih (fun e he => h e (List.mem_append_left _ he))
    have h2 := h d (by simp)
    omega
theorem hfold_digits (x : Nat) (hx : x < 16 ^ 16) : ∀ i, i ≤ 16 → hfold ((List.range i).map (hxd x)) = x / 16 ^ (16 - i)
  | 0, _ => by rw [Nat.div_eq_of_lt hx]; rfl
  | i + 1, h => by
    rw [List.range_succ, List.map_append, List.map_cons, List.map_nil, hfold_snoc, hfold_digits x hx i (by omega)]
    unfold hxd
    rw [show 16 - i = (15 - i) + 1 from by omega, Nat.pow_succ, ← Nat.div_div_eq_div_mul, show 16 - (i + 1) = 15 - i from by omega]
    omega
theorem hfold_take (l : List Nat) : (∀ d ∈ l, d < 16) → ∀ n, n ≤ l.length → hfold l / 16 ^ n = hfold (l.take (l.length - n)) := by
  refine snoc_ind (p := fun l => (∀ d ∈ l, d < 16) → ∀ n, n ≤ l.length → hfold l / 16 ^ n = hfold (l.take (l.length - n))) (fun _ n hn => ?_) (fun l d ih h n hn => ?_) l
  · simp at hn; subst hn; rfl
  · skip
    match n with
    | 0 => rw [Nat.pow_zero, Nat.div_one, Nat.sub_zero, List.take_of_length_le (Nat.le_refl _)]
    | n + 1 =>
      have h2 := h d (by simp)
      simp only [List.length_append, List.length_singleton] at hn ⊢
      rw [hfold_snoc, Nat.pow_succ', ← Nat.div_div_eq_div_mul, show (hfold l * 16 + d) / 16 = hfold l from by omega, ih (fun e he => h e (List.mem_append_left _ he)) n (by omega),
        show l.length + 1 - (n + 1) = l.length - n from by omega, List.take_append_of_le_length (by omega)]
theorem hxd_hfold (l : List Nat) (h : ∀ d ∈ l, d < 16) (hl : l.length = 16) (i : Nat) (hi : i < l.length) : hxd (hfold l) i = l[i] := by
  unfold hxd
  rw [hfold_take l h (15 - i) (by omega), show l.length - (15 - i) = i + 1 from by omega, List.take_succ_eq_append_getElem hi, hfold_snoc]
  have := h l[i] (List.getElem_mem hi)
  omega
/-! the texts -/
theorem bt_ext {s t : ByteArray} (h : s.size = t.size) (e : ∀ i : Nat, i < s.size → bt s i = bt t i) : s = t := by
  cases s with | mk a => cases t with | mk b =>
  congr 1
  refine Array.ext h fun i hi hj => ?_
  have := e i hi
  unfold bt at this
  rw [dif_pos (show (i : Int).toNat < (ByteArray.mk a).size from hi), dif_pos (show (i : Int).toNat < (ByteArray.mk b).size from hj)] at this
  have h2 : (a[i].toNat : Int) = (b[i].toNat : Int) := by simpa [ByteArray.getElem_eq_getElem_data] using this
  exact UInt8.toNat_inj.1 (by omega)
def hs (ds : List Nat) : ByteArray := strOfNums (ds.map hch)
theorem strOfNums_data (l : List Int) : (strOfNums l).data = (l.map fun n => UInt8.ofNat n.toNat).toArray := by
  rfl
theorem hs_size (ds : List Nat) : (hs ds).size = ds.length := by
  unfold hs
  show (strOfNums _).data.size = _
  rw [strOfNums_data]; simp
theorem bt_hs (ds : List Nat) (i : Nat) (h : i < ds.length) : bt (hs ds) i = hch ds[i] := by
  have hsz := hs_size ds
  have h1 : i < (hs ds).size := by omega
  unfold bt
  rw [dif_pos (by simpa using h1)]
  have e : (hs ds)[i] = UInt8.ofNat (hch ds[i]).toNat := by
    rw [ByteArray.getElem_eq_getElem_data]
    have : (hs ds).data = ((ds.map hch).map fun n => UInt8.ofNat n.toNat).toArray := strOfNums_data _
    simp [this]
  have hr := hch_range ds[i]
  have e2 : ((UInt8.ofNat (hch ds[i]).toNat).toNat : Int) = hch ds[i] := by
    rw [UInt8.toNat_ofNat']
    omega
  rw [← e2, ← e]
  simp
theorem hs_of {s : ByteArray} {ds : List Nat} (h : s.size = ds.length) (e : ∀ (i : Nat) (hi : i < ds.length), bt s i = hch ds[i]) : s = hs ds :=
  bt_ext (h.trans (hs_size ds).symm) fun i hi => by rw [e i (by omega), bt_hs ds i (by omega)]
def hdigs (x : Nat) : List Nat := (List.range 16).map (hxd x)
theorem hdigs_length (x : Nat) : (hdigs x).length = 16 := by simp [hdigs]
theorem hdigs_lt (x : Nat) : ∀ d ∈ hdigs x, d < 16 := by
  intro d hd
  obtain ⟨i, _, rfl⟩ := List.mem_map.1 hd
  exact Nat.mod_lt _ (by decide)
theorem hext_nat (x : Nat) (hx : x < 18446744073709551616) : hext (x : Int) = hs (hdigs x) := by
  unfold hext hs
  congr 1
  unfold hexn hdigs
  rw [List.map_map, Nat.sub_self, List.replicate_zero, List.append_nil]
  refine List.map_congr_left fun i hi => ?_
  rw [hexi_nat x i (by simpa using hi) hx]
  rfl
theorem hfold_hdigs (x : Nat) (hx : x < 18446744073709551616) : hfold (hdigs x) = x := by
  have := hfold_digits x hx 16 (by omega)
  rw [Nat.sub_self, Nat.pow_zero, Nat.div_one] at this
  exact this
theorem hdigs_hfold (l : List Nat) (h : ∀ d ∈ l, d < 16) (hl : l.length = 16) : hdigs (hfold l) = l := by
  refine List.ext_getElem (by rw [hdigs_length, hl]) fun i h1 h2 => ?_
  have e : (hdigs (hfold l))[i] = hxd (hfold l) i := by simp [hdigs]
  rw [e]
  exact hxd_hfold l h hl i h2
theorem hs_inj {a b : List Nat} (ha : ∀ d ∈ a, d < 16) (hb : ∀ d ∈ b, d < 16) (h : hs a = hs b) : a = b := by
  have hl : a.length = b.length := by rw [← hs_size, ← hs_size, h]
  refine List.ext_getElem hl fun i h1 h2 => ?_
  have e1 := bt_hs a i h1
  rw [h, bt_hs b i h2] at e1
  have e2 := hv_hch a[i] (ha _ (List.getElem_mem h1))
  rw [← e1, hv_hch b[i] (hb _ (List.getElem_mem h2))] at e2
  exact (Option.some.inj e2).symm
end Go.Proofs.Ytikicibbbeofnaa.Dh
