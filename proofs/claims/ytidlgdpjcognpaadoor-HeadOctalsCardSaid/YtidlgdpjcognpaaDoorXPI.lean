/- What head and its document read back of digits of base 8. -/
import Derived.Test.YtidlgdpjcognpaaDoorXPH
namespace Go.Proofs.YtidlgdpjcognpaaDoor.X
open Go.RowKit Go.Proofs.YtidlgdpjcognpaaDoorW.PrintWords Go.Proofs.YtidlgdpjcognpaaDoor.P
set_option linter.unusedVariables false
set_option linter.unusedSimpArgs false

/-- The number of digits of base 8, behind a number. -/
def octV : List UInt8 → Nat → Option Nat
  | [], n => some n
  | c :: l, n => if 48 ≤ c.toNat ∧ c.toNat ≤ 55 then octV l (8 * n + (c.toNat - 48)) else none
def ofOctR (s : ByteArray) : Int × Bool := if 1 ≤ s.size ∧ s.size ≤ 11 then (match octV s.data.toList 0 with | some n => ((n : Int), true) | none => (0, false)) else (0, false)
theorem pow8_le (i : Nat) (hi : i < 11) : 8 ^ (i + 1) ≤ 8589934592 := by
  have := Nat.pow_le_pow_right (n := 8) (by omega) (show i + 1 ≤ 11 by omega)
  exact this
theorem oct_up (x c i M : Nat) (hx : x < M) (hM : M * 8 ≤ 8589934592) (h1 : 48 ≤ c) (h2 : c ≤ 55) (hi : i < 11) :
    wrap64 (wrap64 (8 * (x : Int)) + ((c : Int) - 48) % 256) = ((8 * x + (c - 48) : Nat) : Int) ∧ wrap64 (wrap64 ((x : Int) * 8) + ((c : Int) - 48) % 256) = ((8 * x + (c - 48) : Nat) : Int) ∧ wrap64 ((i : Int) + 1) = ((i + 1 : Nat) : Int) ∧ 8 * x + (c - 48) < M * 8 := by
  refine ⟨by unfold wrap64; omega, by unfold wrap64; omega, by unfold wrap64; omega, by omega⟩
theorem ofOctal_l0 (s : ByteArray) (hs : s.size ≤ 11) : ∀ (d k i x : Nat), s.size - i = d → i ≤ s.size → x < 8 ^ i → d < k →
    head_OfOctal.l0 k s (x : Int) (s.size : Int) (i : Int) = some (match octV (s.data.toList.drop i) x with | some n => ((n : Int), true) | none => (0, false)) := by
  intro d
  induction d with
  | zero =>
    intro k i x hd hi hx hk
    obtain ⟨k, rfl⟩ : ∃ m, k = m + 1 := ⟨k - 1, by omega⟩
    simp only [head_OfOctal.l0]
    rw [if_neg (by omega), List.drop_eq_nil_of_le (by rw [data_length]; omega)]
    rfl
  | succ d ih =>
    intro k i x hd hi hx hk
    obtain ⟨k, rfl⟩ : ∃ m, k = m + 1 := ⟨k - 1, by omega⟩
    have hlt : i < s.size := by omega
    simp only [head_OfOctal.l0]
    rw [if_pos (by omega), if_pos (by omega), if_pos (by omega), bt_nat s i hlt, drop_data s i hlt]
    generalize s.data.toList[i]'(by rw [data_length]; exact hlt) = c
    rw [octV]
    by_cases h1 : c.toNat < 48
    · rw [if_pos (by omega), if_neg (by omega)]
    by_cases h2 : 55 < c.toNat
    · rw [if_neg (by omega), if_pos (by omega), if_neg (by omega)]
    rw [if_neg (by omega), if_neg (by omega), if_pos (by omega)]
    obtain ⟨e1, _, e2, e3⟩ := oct_up x c.toNat i (8 ^ i) hx (by rw [← Nat.pow_succ]; exact pow8_le i (by clear ih hx; omega)) (by clear ih hx; omega) (by clear ih hx; omega) (by clear ih hx; omega)
    rw [e1, e2]
    exact ih k (i + 1) _ (by clear ih hx e1 e2 e3; omega) (by clear ih hx e1 e2 e3; omega) (by rw [Nat.pow_succ]; exact e3) (by clear ih hx e1 e2 e3; omega)
theorem ofOctal_eq (s : ByteArray) : Ev (fun k => head_OfOctal.f k s) (ofOctR s) := by
  refine ⟨14, fun k hk => ?_⟩
  obtain ⟨k, rfl⟩ : ∃ m, k = m + 1 := ⟨k - 1, by omega⟩
  show head_OfOctal.f _ s = _
  unfold head_OfOctal.f ofOctR
  by_cases h1 : s.size < 1
  · rw [if_pos (by omega), if_neg (by omega)]; simp [head_OfOctal.j0]
  rw [if_neg (by omega)]
  by_cases h2 : 11 < s.size
  · rw [if_neg (by omega), decide_eq_true (by omega)]; simp [head_OfOctal.j0]
  rw [if_pos (by omega), decide_eq_false (by omega)]
  have := ofOctal_l0 s (by omega) s.size k 0 0 (by omega) (by omega) (by decide) (by omega)
  simp only [head_OfOctal.j0]
  rw [if_neg (by simp)]
  exact this
theorem ref_ofOctal_l0 (s : ByteArray) (hs : s.size ≤ 11) (hs1 : 1 ≤ s.size) : ∀ (d k i x : Nat), s.size - i = d → i ≤ s.size → x < 8 ^ i → 2 * d + 1 < k →
    hogsheadref12_OfOctal.l0 k s (x : Int) (i : Int) = some (match octV (s.data.toList.drop i) x with | some n => ((n : Int), true) | none => (0, false)) := by
  intro d
  induction d with
  | zero =>
    intro k i x hd hi hx hk
    obtain ⟨k, rfl⟩ : ∃ m, k = m + 1 + 1 := ⟨k - 2, by omega⟩
    simp only [hogsheadref12_OfOctal.l0]
    rw [if_neg (by omega), List.drop_eq_nil_of_le (by rw [data_length]; omega)]
    simp only [hogsheadref12_OfOctal.j1]
    rw [if_neg (by simp), if_neg (by omega), if_neg (by omega)]
    rfl
  | succ d ih =>
    intro k i x hd hi hx hk
    obtain ⟨k, rfl⟩ : ∃ m, k = m + 1 + 1 := ⟨k - 2, by omega⟩
    have hlt : i < s.size := by omega
    simp only [hogsheadref12_OfOctal.l0]
    rw [if_pos (by omega), decide_eq_true (by omega)]
    simp only [hogsheadref12_OfOctal.j1]
    rw [if_pos trivial, if_pos (by omega), if_pos (by omega), bt_nat s i hlt, drop_data s i hlt]
    generalize s.data.toList[i]'(by rw [data_length]; exact hlt) = c
    rw [octV]
    by_cases h1 : c.toNat < 48
    · rw [if_pos (by omega), if_neg (by omega)]
    by_cases h2 : 55 < c.toNat
    · rw [if_neg (by omega), if_pos (by omega), if_neg (by omega)]
    rw [if_neg (by omega), if_neg (by omega), if_pos (by omega)]
    obtain ⟨_, e1, e2, e3⟩ := oct_up x c.toNat i (8 ^ i) hx (by rw [← Nat.pow_succ]; exact pow8_le i (by clear ih hx; omega)) (by clear ih hx; omega) (by clear ih hx; omega) (by clear ih hx; omega)
    rw [e1, e2]
    exact ih k (i + 1) _ (by clear ih hx e1 e2 e3; omega) (by clear ih hx e1 e2 e3; omega) (by rw [Nat.pow_succ]; exact e3) (by clear ih hx e1 e2 e3; omega)
theorem ref_ofOctal_eq (s : ByteArray) : Ev (fun k => hogsheadref12_OfOctal.f k s) (ofOctR s) := by
  refine ⟨30, fun k hk => ?_⟩
  show hogsheadref12_OfOctal.f _ s = _
  unfold hogsheadref12_OfOctal.f ofOctR
  by_cases h : 1 ≤ s.size ∧ s.size ≤ 11
  · rw [if_pos h]
    exact ref_ofOctal_l0 s (by omega) (by omega) s.size k 0 0 (by omega) (by omega) (by decide) (by omega)
  · rw [if_neg h]
    obtain ⟨k, rfl⟩ : ∃ m, k = m + 1 + 1 := ⟨k - 2, by omega⟩
    simp only [hogsheadref12_OfOctal.l0]
    by_cases h1 : s.size < 1
    · rw [if_neg (by omega)]
      simp only [hogsheadref12_OfOctal.j1]
      rw [if_neg (by simp), if_pos (by omega)]
    · rw [if_pos (by omega), decide_eq_false (by omega)]
      simp only [hogsheadref12_OfOctal.j1]
      rw [if_neg (by simp), if_neg (by omega), if_pos (by omega)]

theorem dch_oct (u : Nat) (h : u < 8) : (dch u).toNat = 48 + u := by
  have : ∀ i : Fin 8, (dch i.val).toNat = 48 + i.val := by decide
  exact this ⟨u, h⟩
theorem octV_octP : ∀ n u x, octV (octP n u) x = some (8 ^ n * x + u % 8 ^ n)
  | 0, u, x => by simp [octP, octV, Nat.mod_one]
  | n + 1, u, x => by
    rw [octP_front, octV]
    have h8 : u / 8 ^ n % 8 < 8 := Nat.mod_lt _ (by omega)
    rw [dch_oct _ h8, if_pos (by omega), octV_octP n]
    congr 1
    have e : 48 + u / 8 ^ n % 8 - 48 = u / 8 ^ n % 8 := by omega
    rw [e, Nat.mul_add, Nat.pow_succ, Nat.mod_mul]
    rw [← Nat.mul_assoc, Nat.add_assoc]
    congr 1
    omega
theorem ofOct_octP (n u : Nat) (h1 : 1 ≤ n) (h2 : n ≤ 11) (hu : u < 8 ^ n) : ofOctR ⟨(octP n u).toArray⟩ = ((u : Int), true) := by
  unfold ofOctR
  rw [size_mk, octP_length, if_pos ⟨h1, h2⟩]
  show (match octV (octP n u) 0 with | some n => ((n : Int), true) | none => (0, false)) = _
  rw [octV_octP, Nat.mul_zero, Nat.zero_add, Nat.mod_eq_of_lt hu]
end Go.Proofs.YtidlgdpjcognpaaDoor.X
