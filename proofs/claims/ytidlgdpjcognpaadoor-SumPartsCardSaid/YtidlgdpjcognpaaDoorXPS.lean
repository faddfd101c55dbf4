/- What the sums are, as plain lists and numbers. -/
import Derived.Test.YtidlgdpjcognpaaDoorX2
import Derived.Test.YtidlgdpjcognpaaDoorX3
import Derived.Test.YtidlgdpjcognpaaDoorPf11
namespace Go.Proofs.YtidlgdpjcognpaaDoor.X
open Go.RowKit Go.Proofs.YtidlgdpjcognpaaDoorW.PrintWords Go.Proofs.YtidlgdpjcognpaaDoor.P
set_option linter.unusedVariables false
set_option linter.unusedSimpArgs false

theorem wrap_up {i : Int} {n : Nat} (h0 : 0 ≤ i) (h : i < (n : Int)) (hn : n ≤ 9223372036854775807) : wrap64 (i + 1) = i + 1 := by
  unfold wrap64
  omega
theorem rd_getElem (xs : List Int) (j : Nat) (h : j < xs.length) : rd xs (j : Int) = xs[j] := by
  simp [rd, List.getD_eq_getElem?_getD, h]

def nextN (h b : Int) : Int := IntKind.u64.wrap ((bits .xor .u64 h (IntKind.u64.wrap b)) * 1099511628211)
def sumL (xs : List Int) (h : Int := 14695981039346656037) : Int := xs.foldl nextN h

theorem next_eq (h b : Int) : sum_Next.f h b = some (nextN h b) := rfl
theorem ref_next_eq (h b : Int) : hogsheadref6_Next.f h b = some (nextN h b) := rfl

theorem ref_of_l0 (xs : List Int) (hn : xs.length ≤ 9223372036854775807) : ∀ (d : Nat) (k i : Nat) (h : Int), xs.length - i = d → i ≤ xs.length → d < k →
    hogsheadref6_Of.l0 k xs h i = some (sumL (xs.drop i) h) := by
  intro d
  induction d with
  | zero =>
    intro k i h hd hi hk
    obtain ⟨k, rfl⟩ : ∃ m, k = m + 1 := ⟨k - 1, by omega⟩
    simp only [hogsheadref6_Of.l0]
    rw [if_neg (by omega), List.drop_eq_nil_of_le (by omega)]
    rfl
  | succ d ih =>
    intro k i h hd hi hk
    obtain ⟨k, rfl⟩ : ∃ m, k = m + 1 := ⟨k - 1, by omega⟩
    have hlt : i < xs.length := by omega
    simp only [hogsheadref6_Of.l0]
    rw [if_pos (by omega), if_pos (by omega), ref_next_eq]
    simp only [Option.bind_some]
    rw [wrap_up (n := xs.length) (by omega) (by omega) hn, rd_getElem xs i hlt]
    have := ih k (i + 1) (nextN h xs[i]) (by omega) (by omega) (by omega)
    rw [show ((i : Int) + 1) = ((i + 1 : Nat) : Int) by omega, this, List.drop_eq_getElem_cons hlt]
    rfl
theorem ref_of_eq (xs : List Int) (hn : xs.length ≤ 9223372036854775807) (k : Nat) (hk : xs.length < k) : hogsheadref6_Of.f k xs = some (sumL xs) := by
  have := ref_of_l0 xs hn xs.length k 0 14695981039346656037 (by omega) (by omega) hk
  simpa [hogsheadref6_Of.f] using this

theorem rdL_getElem (ls : List (List Int)) (j : Nat) (h : j < ls.length) : rd_L1 ls (j : Int) = ls[j] := by
  simp [rd_L1, List.getD_eq_getElem?_getD, h]
/-- one part, from i on -/
theorem of_l1 (ls : List (List Int)) (hL : ls.length ≤ 9223372036854775807) (j : Nat) (hj : j < ls.length) (xs : List Int) (hn : xs.length ≤ 9223372036854775807) : ∀ (d : Nat) (k k0 i : Nat) (h : Int), xs.length - i = d → i ≤ xs.length → k = k0 + d + 1 →
    sum_Of.l1 k h ls ls.length j xs xs.length i = sum_Of.l0 k0 (sumL (xs.drop i) h) ls ls.length ((j + 1 : Nat) : Int) := by
  intro d
  induction d with
  | zero =>
    intro k k0 i h hd hi hk
    obtain ⟨m, rfl⟩ : ∃ m, k = m + 1 := ⟨k - 1, by omega⟩
    obtain rfl : m = k0 := by omega
    simp only [sum_Of.l1]
    rw [if_neg (by omega), List.drop_eq_nil_of_le (by omega), wrap_up (n := ls.length) (by omega) (by omega) hL]
    rfl
  | succ d ih =>
    intro k k0 i h hd hi hk
    obtain ⟨m, rfl⟩ : ∃ m, k = m + 1 := ⟨k - 1, by omega⟩
    have hlt : i < xs.length := by omega
    simp only [sum_Of.l1]
    rw [if_pos (by omega), if_pos (by omega), if_pos (by omega), next_eq]
    simp only [Option.bind_some]
    rw [wrap_up (n := xs.length) (by omega) (by omega) hn, rd_getElem xs i hlt]
    have := ih m k0 (i + 1) (nextN h xs[i]) (by omega) (by omega) (by omega)
    rw [show ((i : Int) + 1) = ((i + 1 : Nat) : Int) by omega, this, List.drop_eq_getElem_cons hlt]
    rfl
def sumP (ls : List (List Int)) (h : Int := 14695981039346656037) : Int := ls.foldl (fun h xs => sumL xs h) h
theorem of_l0 (ls : List (List Int)) (hL : ls.length ≤ 9223372036854775807) (hx : ∀ xs ∈ ls, xs.length ≤ 9223372036854775807) : ∀ (d : Nat) (i : Nat) (h : Int), ls.length - i = d → i ≤ ls.length →
    ∃ K, ∀ k, K ≤ k → sum_Of.l0 k h ls ls.length i = some (sumP (ls.drop i) h) := by
  intro d
  induction d with
  | zero =>
    intro i h hd hi
    refine ⟨1, fun k hk => ?_⟩
    obtain ⟨k, rfl⟩ : ∃ m, k = m + 1 := ⟨k - 1, by omega⟩
    simp only [sum_Of.l0]
    rw [if_neg (by omega), List.drop_eq_nil_of_le (by omega)]
    rfl
  | succ d ih =>
    intro i h hd hi
    have hlt : i < ls.length := by omega
    obtain ⟨K, hK⟩ := ih (i + 1) (sumL ls[i] h) (by omega) (by omega)
    refine ⟨K + ls[i].length + 2, fun k hk => ?_⟩
    obtain ⟨k', rfl⟩ : ∃ m, k = m + ls[i].length + 1 + 1 := ⟨k - ls[i].length - 2, by omega⟩
    simp only [sum_Of.l0]
    rw [if_pos (by omega), if_pos (by omega), if_pos (by omega), rdL_getElem ls i hlt]
    have := of_l1 ls hL i hlt ls[i] (hx _ (List.getElem_mem hlt)) ls[i].length _ k' 0 h (by omega) (by omega) rfl
    simp only [List.drop_zero, Int.natCast_zero] at this
    rw [this, hK k' (by omega), List.drop_eq_getElem_cons hlt]
    rfl
theorem of_eq (ls : List (List Int)) (hL : ls.length ≤ 9223372036854775807) (hx : ∀ xs ∈ ls, xs.length ≤ 9223372036854775807) : Ev (fun k => sum_Of.f k ls) (sumP ls) := by
  obtain ⟨K, hK⟩ := of_l0 ls hL hx ls.length 0 14695981039346656037 (by omega) (by omega)
  exact ⟨K, fun k hk => by have := hK k hk; simpa [sum_Of.f] using this⟩
theorem sumP_one (xs : List Int) : sumP [xs] = sumL xs := rfl
theorem sumL_append (xs ys : List Int) (h : Int) : sumL (xs ++ ys) h = sumL ys (sumL xs h) := by simp [sumL]
theorem sumP_flat (ls : List (List Int)) (h : Int) : sumP ls h = sumL ls.flatten h := by
  induction ls generalizing h with
  | nil => rfl
  | cons xs ls ih => rw [List.flatten_cons, sumL_append]; exact ih _

/-! ### the digits -/
/-- n digits of base 16, the last ones first told -/
def hexP : Nat → Nat → List UInt8
  | 0, _ => []
  | n + 1, u => hexP n (u / 16) ++ [dch (u % 16)]
def hexS (u : Int) : ByteArray := ⟨(hexP 16 u.toNat).toArray⟩
theorem hexP_length : ∀ n u, (hexP n u).length = n
  | 0, _ => rfl
  | n + 1, u => by simp [hexP, hexP_length n]
theorem hexP_zero : ∀ n, hexP n 0 = List.replicate n (dch 0)
  | 0 => rfl
  | n + 1 => by rw [hexP, Nat.zero_div, hexP_zero n, List.replicate_succ']
theorem hexP_front : ∀ n u, hexP (n + 1) u = dch (u / 16 ^ n % 16) :: hexP n u
  | 0, u => by simp [hexP]
  | n + 1, u => by
    rw [hexP, hexP_front n (u / 16), hexP, Nat.div_div_eq_div_mul, Nat.pow_succ, Nat.mul_comm 16]
    rfl
theorem pad_digits : ∀ n u, 0 < n → u < 16 ^ n → (digitsOf 16 u).length ≤ n ∧ List.replicate (n - (digitsOf 16 u).length) (dch 0) ++ digitsOf 16 u = hexP n u
  | 0, _, h, _ => absurd h (by omega)
  | 1, u, _, hu => by
    rw [digitsOf_lt (by simpa using hu)]
    have : u % 16 = u := Nat.mod_eq_of_lt (by simpa using hu)
    simp [hexP, this]
  | n + 2, u, _, hu => by
    by_cases h : u < 16
    · rw [digitsOf_lt h]
      refine ⟨by simp, ?_⟩
      rw [hexP, Nat.div_eq_of_lt h, hexP_zero, Nat.mod_eq_of_lt h]
      rfl
    · have hd : u / 16 < 16 ^ (n + 1) := by
        rw [Nat.div_lt_iff_lt_mul (by omega)]
        calc u < 16 ^ (n + 2) := hu
          _ = 16 ^ (n + 1) * 16 := Nat.pow_succ ..
      obtain ⟨hl, he⟩ := pad_digits (n + 1) (u / 16) (by omega) hd
      rw [digitsOf_ge (by omega) (by omega)]
      refine ⟨by simp; omega, ?_⟩
      rw [hexP, ← he, List.length_append, ← List.append_assoc]
      simp
theorem repeatL_zero : ∀ n, Lib.repeatL [48] n = List.replicate n (dch 0)
  | 0 => rfl
  | n + 1 => by rw [Lib.repeatL, repeatL_zero n, List.replicate_succ]; rfl
theorem size_mk (l : List UInt8) : (⟨l.toArray⟩ : ByteArray).size = l.length := by simp [ByteArray.size]
theorem append_mk (l m : List UInt8) : (⟨l.toArray⟩ : ByteArray) ++ ⟨m.toArray⟩ = ⟨(l ++ m).toArray⟩ := by
  apply ByteArray.ext
  simp
theorem hex_eq (u : Int) (h0 : 0 ≤ u) (h1 : u < 18446744073709551616) : sum_Hex.f u = some (hexS u) := by
  obtain ⟨n, rfl⟩ := Int.eq_ofNat_of_zero_le h0
  obtain ⟨hl, he⟩ := pad_digits 16 n (by omega) (by omega)
  unfold sum_Hex.f strconv_FormatUint.f
  rw [if_pos ⟨h0, h1, rfl⟩]
  simp only [Option.bind_some, Int.toNat_natCast, size_mk]
  have e : wrap64 (16 - ((digitsOf 16 n).length : Int)) = ((16 - (digitsOf 16 n).length : Nat) : Int) := by unfold wrap64; omega
  rw [e]
  unfold strings_Repeat.f
  have e1 : (⟨#[48]⟩ : ByteArray).size = 1 := rfl
  rw [if_pos ⟨by omega, by omega, by rw [e1, Int.toNat_natCast]; omega⟩]
  simp only [Option.bind_some, Int.toNat_natCast]
  rw [repeatL_zero, size_mk, if_pos (by simp; omega), append_mk, he]
  rfl

theorem bt_hex (j : Nat) (h : j < 16) : bt (⟨#[48, 49, 50, 51, 52, 53, 54, 55, 56, 57, 97, 98, 99, 100, 101, 102]⟩ : ByteArray) (j : Int) = ((dch j).toNat : Int) := by
  have : ∀ i : Fin 16, bt (⟨#[48, 49, 50, 51, 52, 53, 54, 55, 56, 57, 97, 98, 99, 100, 101, 102]⟩ : ByteArray) (i.val : Int) = ((dch i.val).toNat : Int) := by decide +kernel
  exact this ⟨j, h⟩
theorem strOf_nums (l : List UInt8) : strOfNums (l.map fun b => (b.toNat : Int)) = ⟨l.toArray⟩ := by
  unfold strOfNums
  congr 2
  simp [List.map_map, Function.comp_def]
theorem ref_hex_l0 (u : Nat) (hu : u < 18446744073709551616) : ∀ (n k : Nat) (acc : List Int), n ≤ 16 → acc.length + n ≤ 16 → n < k →
    hogsheadref6_Hex.l0 k u acc ((n : Int) - 1) = some (strOfNums (acc ++ (hexP n u).map fun b => (b.toNat : Int))) := by
  intro n
  induction n with
  | zero =>
    intro k acc hn ha hk
    obtain ⟨k, rfl⟩ : ∃ m, k = m + 1 := ⟨k - 1, by omega⟩
    simp only [hogsheadref6_Hex.l0]
    rw [if_neg (by omega)]
    simp [hexP]
  | succ n ih =>
    intro k acc hn ha hk
    obtain ⟨k, rfl⟩ : ∃ m, k = m + 1 := ⟨k - 1, by omega⟩
    have e0 : ((n + 1 : Nat) : Int) - 1 = (n : Int) := by omega
    have e1 : wrap64 (4 * (n : Int)) = ((4 * n : Nat) : Int) := by unfold wrap64; omega
    have e2 : shr .u64 (u : Int) ((4 * n : Nat) : Int) = ((u / 16 ^ n : Nat) : Int) := by
      unfold shr
      have hb : IntKind.u64.bits = 64 := rfl
      have h2 : (2 : Int) ^ (4 * n) = ((16 ^ n : Nat) : Int) := by
        have : (2 : Nat) ^ (4 * n) = 16 ^ n := by rw [Nat.pow_mul]
        rw [← this]; simp
      rw [hb, Int.toNat_natCast, Nat.min_eq_left (by omega), h2]
      omega
    have hlt : u / 16 ^ n < 18446744073709551616 := Nat.lt_of_le_of_lt (Nat.div_le_self _ _) hu
    have e3 := and15 _ hlt
    simp only [hogsheadref6_Hex.l0]
    rw [e0, if_pos (by omega), e1, if_pos (by omega), e2, e3, if_pos (by omega), if_pos (by omega), if_pos (by omega), bt_hex _ (by omega)]
    have e4 : wrap64 ((n : Int) - 1) = (n : Int) - 1 := by unfold wrap64; omega
    rw [e4]
    rw [ih k _ (by omega) (by simp; omega) (by omega), hexP_front, List.map_cons, List.append_assoc]
    rfl
theorem ref_hex_eq (u : Int) (h0 : 0 ≤ u) (h1 : u < 18446744073709551616) (k : Nat) (hk : 17 ≤ k) : hogsheadref6_Hex.f k u = some (hexS u) := by
  obtain ⟨n, rfl⟩ := Int.eq_ofNat_of_zero_le h0
  have := ref_hex_l0 n (by omega) 16 k [] (by omega) (by simp) (by omega)
  unfold hogsheadref6_Hex.f
  rw [List.nil_append, strOf_nums] at this
  exact this

theorem nextN_range (h b : Int) : 0 ≤ nextN h b ∧ nextN h b < 18446744073709551616 := by
  unfold nextN
  rw [IntKind.wrap_u64]
  omega
theorem sumL_range (xs : List Int) : ∀ h : Int, 0 ≤ h → h < 18446744073709551616 → 0 ≤ sumL xs h ∧ sumL xs h < 18446744073709551616 := by
  induction xs with
  | nil => exact fun h h0 h1 => ⟨h0, h1⟩
  | cons x xs ih => exact fun h h0 h1 => ih _ (nextN_range h x).1 (nextN_range h x).2
theorem sumL_range' (xs : List Int) : 0 ≤ sumL xs ∧ sumL xs < 18446744073709551616 := sumL_range xs _ (by omega) (by omega)
theorem digest_eq (s : ByteArray) (hs : s.size ≤ 9223372036854775807) : Ev (fun k => sum_Digest.f k s) (hexS (sumL (bytesOf s))) := by
  obtain ⟨K, hK⟩ := of_eq [bytesOf s] (by simp) (by intro xs hx; simp at hx; subst hx; rw [bytesOf_length]; exact hs)
  refine ⟨K, fun k hk => ?_⟩
  have hr := sumL_range' (bytesOf s)
  show sum_Digest.f k s = _
  unfold sum_Digest.f
  have hK := hK k hk
  simp only at hK
  rw [if_pos hs, hK, sumP_one]
  simp only [Option.bind_some]
  exact hex_eq _ hr.1 hr.2
theorem ref_digest_eq (s : ByteArray) (hs : s.size ≤ 9223372036854775807) : Ev (fun k => hogsheadref6_Digest.f k s) (hexS (sumL (bytesOf s))) := by
  refine ⟨s.size + 18, fun k hk => ?_⟩
  have hr := sumL_range' (bytesOf s)
  show hogsheadref6_Digest.f k s = _
  unfold hogsheadref6_Digest.f
  rw [if_pos hs, ref_of_eq _ (by rw [bytesOf_length]; exact hs) k (by rw [bytesOf_length]; omega)]
  simp only [Option.bind_some]
  exact ref_hex_eq _ hr.1 hr.2 k (by omega)
theorem hexS_toList (u : Int) : (hexS u).toList = hexP 16 u.toNat := by
  unfold hexS
  have h : (⟨(hexP 16 u.toNat).toArray⟩ : ByteArray).toList = ((hexP 16 u.toNat).toArray).toList := by
    exact Lib.toList_data _
  rw [h]
theorem awake6_eq : Ev (fun k => hogsheadlaw6_awake.f k) true := by
  obtain ⟨K1, h1⟩ := digest_eq ⟨#[]⟩ (by decide)
  obtain ⟨K2, h2⟩ := digest_eq ⟨#[97]⟩ (by decide)
  obtain ⟨K3, h3⟩ := of_eq [] (by simp) (by simp)
  refine ⟨K1 + K2 + K3, fun k hk => ?_⟩
  show hogsheadlaw6_awake.f k = _
  have h1 := h1 k (by omega)
  have h2 := h2 k (by omega)
  have h3 := h3 k (by omega)
  simp only at h1 h2 h3
  unfold hogsheadlaw6_awake.f
  rw [h1]
  simp only [Option.bind_some]
  rw [hexS_toList, if_pos (by decide +kernel), h2]
  simp only [Option.bind_some]
  rw [hexS_toList, if_pos (by decide +kernel), h3]
  rfl
theorem same_l0 (xs : List Int) (hn : xs.length ≤ 9223372036854775807) : ∀ (d k i : Nat), xs.length - i = d → i ≤ xs.length → d < k → hogsheadlaw0_SameBytes.l0 k xs xs i = some true := by
  intro d
  induction d with
  | zero =>
    intro k i hd hi hk
    obtain ⟨k, rfl⟩ : ∃ m, k = m + 1 := ⟨k - 1, by omega⟩
    simp only [hogsheadlaw0_SameBytes.l0]
    rw [if_neg (by omega)]
  | succ d ih =>
    intro k i hd hi hk
    obtain ⟨k, rfl⟩ : ∃ m, k = m + 1 := ⟨k - 1, by omega⟩
    simp only [hogsheadlaw0_SameBytes.l0]
    rw [if_pos (by omega), if_pos (by omega), if_pos (by omega), if_pos trivial, wrap_up (n := xs.length) (by omega) (by omega) hn]
    have := ih k (i + 1) (by omega) (by omega) (by omega)
    rw [show ((i : Int) + 1) = ((i + 1 : Nat) : Int) by omega]
    exact this
theorem sameBytes_refl (xs : List Int) (hn : xs.length ≤ 9223372036854775807) (k : Nat) (hk : xs.length < k) : hogsheadlaw0_SameBytes.f k xs xs = some true := by
  unfold hogsheadlaw0_SameBytes.f
  rw [if_pos rfl]
  exact same_l0 xs hn xs.length k 0 (by omega) (by omega) hk

end Go.Proofs.YtidlgdpjcognpaaDoor.X
