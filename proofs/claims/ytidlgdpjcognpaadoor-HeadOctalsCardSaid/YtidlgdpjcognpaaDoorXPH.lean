/- Numbers in digits of base 8, as the printed functions of head and of its document tell them. -/
import Derived.Test.YtidlgdpjcognpaaDoorXPG
import Derived.Test.YtidlgdpjcognpaaDoorX1
import Derived.Test.YtidlgdpjcognpaaDoorPf24
import Derived.Test.YtidlgdpjcognpaaDoorPf25
import Derived.Test.YtidlgdpjcognpaaDoorPf26
import Derived.Test.YtidlgdpjcognpaaDoorPf27
namespace Go.Proofs.YtidlgdpjcognpaaDoor.X
open Go.RowKit Go.Proofs.YtidlgdpjcognpaaDoorW.PrintWords Go.Proofs.YtidlgdpjcognpaaDoor.P
set_option linter.unusedVariables false
set_option linter.unusedSimpArgs false

def octP : Nat → Nat → List UInt8
  | 0, _ => []
  | n + 1, u => octP n (u / 8) ++ [dch (u % 8)]
theorem octP_length : ∀ n u, (octP n u).length = n
  | 0, _ => rfl
  | n + 1, u => by rw [octP, List.length_append, octP_length n]; rfl
theorem octP_zero : ∀ n, octP n 0 = List.replicate n (dch 0)
  | 0 => rfl
  | n + 1 => by rw [octP, Nat.zero_div, octP_zero n, List.replicate_succ']
theorem pad_oct : ∀ n u, 0 < n → u < 8 ^ n → (digitsOf 8 u).length ≤ n ∧ List.replicate (n - (digitsOf 8 u).length) (dch 0) ++ digitsOf 8 u = octP n u
  | 0, _, h, _ => absurd h (by omega)
  | 1, u, _, hu => by
    rw [digitsOf_lt (by simpa using hu)]
    have : u % 8 = u := Nat.mod_eq_of_lt (by simpa using hu)
    simp [octP, this]
  | n + 2, u, _, hu => by
    by_cases h : u < 8
    · rw [digitsOf_lt h]
      refine ⟨by simp, ?_⟩
      rw [octP, Nat.div_eq_of_lt h, octP_zero, Nat.mod_eq_of_lt h]
      rfl
    · have hd : u / 8 < 8 ^ (n + 1) := by
        rw [Nat.div_lt_iff_lt_mul (by omega)]
        calc u < 8 ^ (n + 2) := hu
          _ = 8 ^ (n + 1) * 8 := Nat.pow_succ ..
      obtain ⟨hl, he⟩ := pad_oct (n + 1) (u / 8) (by omega) hd
      rw [digitsOf_ge (by omega) (by omega)]
      refine ⟨by simp; omega, ?_⟩
      rw [octP, ← he, List.length_append, ← List.append_assoc]
      simp
theorem oct_long : ∀ n u, 0 < n → 8 ^ n ≤ u → n < (digitsOf 8 u).length
  | 0, _, h, _ => absurd h (by omega)
  | 1, u, _, hu => by
    rw [digitsOf_ge (by omega) (by omega), List.length_append]
    have : 0 < (digitsOf 8 (u / 8)).length := by unfold digitsOf; split <;> simp
    simp; omega
  | n + 2, u, _, hu => by
    have h8 : 8 ^ (n + 2) = 8 ^ (n + 1) * 8 := Nat.pow_succ ..
    have hp : 0 < 8 ^ (n + 1) := Nat.pow_pos (by omega)
    have hd : 8 ^ (n + 1) ≤ u / 8 := by rw [Nat.le_div_iff_mul_le (by omega)]; omega
    have := oct_long (n + 1) (u / 8) (by omega) hd
    rw [digitsOf_ge (by omega) (by omega), List.length_append]
    simp; omega
/-- A number's digits, or a refusal. -/
def octR (a0 a1 : Int) : ByteArray × Bool := if 0 ≤ a0 ∧ 1 ≤ a1 ∧ a1 ≤ 11 ∧ a0.toNat < 8 ^ a1.toNat then (⟨(octP a1.toNat a0.toNat).toArray⟩, true) else (⟨#[]⟩, false)
theorem octal_eq (k : Nat) (a0 a1 : Int) (h0 : a0 < 9223372036854775808) : head_Octal.f (k + 1) a0 a1 = some (octR a0 a1) := by
  unfold head_Octal.f
  by_cases c1 : a0 < 0
  · rw [if_pos c1, octR, if_neg (by omega)]; simp [head_Octal.j0]
  rw [if_neg c1]
  by_cases c2 : a1 < 1
  · rw [if_pos c2, octR, if_neg (by omega)]; simp [head_Octal.j0]
  rw [if_neg c2]
  by_cases c3 : a1 > 11
  · rw [decide_eq_true c3, octR, if_neg (by omega)]; simp [head_Octal.j0]
  rw [decide_eq_false c3]
  obtain ⟨n, rfl⟩ := Int.eq_ofNat_of_zero_le (show 0 ≤ a0 by omega)
  obtain ⟨d, rfl⟩ := Int.eq_ofNat_of_zero_le (show 0 ≤ a1 by omega)
  have hf : strconv_FormatInt.f (n : Int) 8 = some ⟨(digitsOf 8 n).toArray⟩ := by
    unfold strconv_FormatInt.f
    rw [if_pos ⟨by omega, h0, rfl⟩]; rfl
  simp only [head_Octal.j0]
  rw [if_neg (by simp), hf]
  simp only [Option.bind_some]
  have hs : (⟨(digitsOf 8 n).toArray⟩ : ByteArray).size = (digitsOf 8 n).length := by simp [ByteArray.size]
  rw [hs]
  by_cases c4 : n < 8 ^ d
  · obtain ⟨hl, he⟩ := pad_oct d n (by omega) c4
    rw [if_neg (by omega), octR, if_pos ⟨by omega, by omega, by omega, by simpa using c4⟩]
    have hw : wrap64 ((d : Int) - ((digitsOf 8 n).length : Int)) = ((d - (digitsOf 8 n).length : Nat) : Int) := by unfold wrap64; omega
    have hr : strings_Repeat.f (⟨#[48]⟩ : ByteArray) ((d - (digitsOf 8 n).length : Nat) : Int) = some ⟨(List.replicate (d - (digitsOf 8 n).length) (dch 0)).toArray⟩ := by
      unfold strings_Repeat.f
      have h1 : (⟨#[48]⟩ : ByteArray).size = 1 := rfl
      rw [h1, if_pos ⟨by omega, by omega, by simp; omega⟩]
      have := repeatL_zero (d - (digitsOf 8 n).length)
      simp only [Int.toNat_natCast]
      rw [← this]
    rw [hw, hr]
    simp only [Option.bind_some]
    have h2 : (⟨(List.replicate (d - (digitsOf 8 n).length) (dch 0)).toArray⟩ : ByteArray).size = d - (digitsOf 8 n).length := by simp [ByteArray.size]
    rw [if_pos (by rw [h2]; omega)]
    have h3 : (⟨(List.replicate (d - (digitsOf 8 n).length) (dch 0)).toArray⟩ : ByteArray) ++ ⟨(digitsOf 8 n).toArray⟩ = ⟨(octP d n).toArray⟩ := by
      rw [← he]; apply ByteArray.ext; simp
    rw [h3]
    rfl
  · have hl := oct_long d n (by omega) (by omega)
    rw [if_pos (by omega), octR, if_neg (by simp; omega)]

theorem octP_front : ∀ n u, octP (n + 1) u = dch (u / 8 ^ n % 8) :: octP n u
  | 0, u => by simp [octP]
  | n + 1, u => by
    rw [octP, octP_front n (u / 8), octP, Nat.div_div_eq_div_mul, Nat.pow_succ, Nat.mul_comm 8]
    rfl
theorem ext_oct (r : Nat) (h : r < 8) : (⟨#[48, 49, 50, 51, 52, 53, 54, 55]⟩ : ByteArray).extract r (r + 1) = ⟨#[dch r]⟩ := by
  have : ∀ i : Fin 8, (⟨#[48, 49, 50, 51, 52, 53, 54, 55]⟩ : ByteArray).extract i.val (i.val + 1) = ⟨#[dch i.val]⟩ := by decide +kernel
  exact this ⟨r, h⟩
theorem oct_words (n M : Nat) (hn : n < 9223372036854775808) : n / M % 8 < 8 ∧ wrap64 (((n / M % 8 : Nat) : Int) + 1) = ((n / M % 8 + 1 : Nat) : Int) ∧ wrap64 ((n / M / 8 : Nat) : Int) = ((n / M / 8 : Nat) : Int) ∧ ((n / M % 8 : Nat) : Int) ≤ ((n / M % 8 + 1 : Nat) : Int) ∧ (0 : Int) ≤ ((n / M % 8 : Nat) : Int) ∧ ((n / M % 8 + 1 : Nat) : Int) ≤ 8 := by
  have hq : n / M ≤ n := Nat.div_le_self _ _
  generalize n / M = q at *
  refine ⟨by omega, by unfold wrap64; omega, by unfold wrap64; omega, by omega, by omega, by omega⟩
theorem oct_step (i d : Nat) (h : i < d) (hd : d ≤ 11) : wrap64 ((i : Int) + 1) = ((i + 1 : Nat) : Int) ∧ (i : Int) < (d : Int) := by
  refine ⟨by unfold wrap64; omega, by omega⟩
theorem ref_octal_l0 (n d : Nat) (hn : n < 9223372036854775808) (hd : d ≤ 11) : ∀ (e k i : Nat), d - i = e → i ≤ d → e < k →
    hogsheadref12_Octal.l0 k ((n / 8 ^ i : Nat) : Int) d ⟨(octP i n).toArray⟩ i = some (if n < 8 ^ d then (⟨(octP d n).toArray⟩, true) else (⟨#[]⟩, false)) := by
  intro e
  induction e with
  | zero =>
    intro k i he hi hk
    obtain ⟨k, rfl⟩ : ∃ m, k = m + 1 := ⟨k - 1, by omega⟩
    obtain rfl : i = d := by omega
    simp only [hogsheadref12_Octal.l0]
    rw [if_neg (by omega)]
    have hp : 0 < 8 ^ i := Nat.pow_pos (by omega)
    by_cases c : n < 8 ^ i
    · have : n / 8 ^ i = 0 := Nat.div_eq_of_lt c
      rw [this, if_neg (by simp), if_pos c]
    · have : 0 < n / 8 ^ i := Nat.div_pos (by omega) hp
      rw [if_pos (by omega), if_neg c]
  | succ e ih =>
    intro k i he hi hk
    obtain ⟨k, rfl⟩ : ∃ m, k = m + 1 := ⟨k - 1, by omega⟩
    simp only [hogsheadref12_Octal.l0]
    have em : Int.tmod ((n / 8 ^ i : Nat) : Int) 8 = ((n / 8 ^ i % 8 : Nat) : Int) := rfl
    have ed : Int.tdiv ((n / 8 ^ i : Nat) : Int) 8 = ((n / 8 ^ i / 8 : Nat) : Int) := rfl
    rw [em, ed]
    have hn2 : n / 8 ^ (i + 1) = n / 8 ^ i / 8 := by rw [Nat.div_div_eq_div_mul, Nat.pow_succ]
    have hf := octP_front i n
    obtain ⟨hr, hw, hw2, c2, c3, c4⟩ := oct_words n (8 ^ i) hn
    obtain ⟨hw3, c1⟩ := oct_step i d (by clear hn2 hf em ed c2 c3 c4 hw hw2 hr ih; omega) hd
    rw [hw, hw2, hw3]
    generalize n / 8 ^ i % 8 = r at *
    rw [if_pos c1, if_pos c3, if_pos c2, if_pos c4]
    simp only [Int.toNat_natCast]
    rw [ext_oct r hr]
    have hl := octP_length i n
    have e1 : (⟨#[dch r]⟩ : ByteArray).size = 1 := rfl
    have h9 : 1 + i ≤ 9223372036854775807 := by clear hn2 hf em ed c2 c3 c4 hw hw2 hr ih; omega
    rw [if_pos (by rw [e1, size_mk, hl]; exact h9)]
    have e2 : (⟨#[dch r]⟩ : ByteArray) ++ ⟨(octP i n).toArray⟩ = ⟨(octP (i + 1) n).toArray⟩ := by rw [hf]; exact append_mk [dch r] (octP i n)
    rw [e2, ← hn2]
    clear hn2 hf em ed c2 c3 c4 hw hw2 hr e2 h9 e1 hl
    exact ih k (i + 1) (by clear ih; omega) (by clear ih; omega) (by clear ih; omega)
theorem ref_octal_eq (k : Nat) (hk : 14 ≤ k) (a0 a1 : Int) (h0 : a0 < 9223372036854775808) : hogsheadref12_Octal.f k a0 a1 = some (octR a0 a1) := by
  obtain ⟨k, rfl⟩ : ∃ m, k = m + 1 := ⟨k - 1, by omega⟩
  unfold hogsheadref12_Octal.f
  by_cases c1 : a0 < 0
  · rw [if_pos c1, octR, if_neg (by omega)]; simp [hogsheadref12_Octal.j0]
  rw [if_neg c1]
  by_cases c2 : a1 < 1
  · rw [if_pos c2, octR, if_neg (by omega)]; simp [hogsheadref12_Octal.j0]
  rw [if_neg c2]
  by_cases c3 : a1 > 11
  · rw [decide_eq_true c3, octR, if_neg (by omega)]; simp [hogsheadref12_Octal.j0]
  rw [decide_eq_false c3]
  obtain ⟨n, rfl⟩ := Int.eq_ofNat_of_zero_le (show 0 ≤ a0 by omega)
  obtain ⟨d, rfl⟩ := Int.eq_ofNat_of_zero_le (show 0 ≤ a1 by omega)
  simp only [hogsheadref12_Octal.j0]
  rw [if_neg (by simp)]
  have := ref_octal_l0 n d (by omega) (by omega) d k 0 (by omega) (by omega) (by omega)
  rw [Nat.pow_zero, Nat.div_one] at this
  rw [show ((0 : Nat) : Int) = 0 from rfl, show (octP 0 n).toArray = #[] from rfl] at this
  rw [this, octR]
  congr 1
  by_cases c4 : n < 8 ^ d
  · rw [if_pos c4, if_pos ⟨by omega, by omega, by omega, by simpa using c4⟩]; rfl
  · rw [if_neg c4, if_neg (by simp; omega)]
end Go.Proofs.YtidlgdpjcognpaaDoor.X
