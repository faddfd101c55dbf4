/- Digits of a number in a base from 2 to 36, as plain lists of bytes; and the box of 65 cells in which the library lays them. -/
import Derived.WalkKit
namespace Go.Proofs.YtidlgdpjcognpaaDoor.X
open Go.RowKit
set_option linter.unusedVariables false
set_option linter.unusedSimpArgs false

/-- a digit's sign -/
def dch (k : Nat) : UInt8 := if k < 10 then UInt8.ofNat (48 + k) else UInt8.ofNat (87 + k)
/-- the digits of a number in base b -/
def digitsOf (b : Nat) (u : Nat) : List UInt8 := if h : u < b ∨ b < 2 then [dch u] else digitsOf b (u / b) ++ [dch (u % b)]
termination_by u
decreasing_by
  have : ¬ u < b := fun x => h (.inl x)
  have : ¬ b < 2 := fun x => h (.inr x)
  exact Nat.div_lt_self (by omega) (by omega)
theorem digitsOf_lt {b u : Nat} (h : u < b) : digitsOf b u = [dch u] := by unfold digitsOf; rw [dif_pos (.inl h)]
theorem digitsOf_ge {b u : Nat} (h : b ≤ u) (hb : 2 ≤ b) : digitsOf b u = digitsOf b (u / b) ++ [dch (u % b)] := by
  rw [digitsOf]; rw [dif_neg (by omega)]

/-- the box of digits: what stands in it -/
structure Box (C : Array Value) (ds : List UInt8) : Prop where
  size : C.size = 65
  len : ds.length ≤ 65
  old : ∀ j, j < 65 → ∃ z : Int, C[j]? = some (.int .u8 z)
  new : ∀ j (h : j < ds.length), C[65 - ds.length + j]? = some (.int .u8 (ds[j].toNat))

theorem box_put {C : Array Value} {ds : List UInt8} (h : Box C ds) (hl : ds.length < 65) (x : UInt8) : Box (C.setIfInBounds (64 - ds.length) (.int .u8 (x.toNat : Int))) (x :: ds) := by
  refine ⟨by simp [h.size], by simp; omega, ?_, ?_⟩
  · intro j hj
    by_cases e : 64 - ds.length = j
    · subst e; exact ⟨(x.toNat : Int), by rw [Array.getElem?_setIfInBounds]; simp [h.size]; omega⟩
    · obtain ⟨z, hz⟩ := h.old j hj
      exact ⟨z, by rw [Array.getElem?_setIfInBounds_ne (by omega)]; exact hz⟩
  · intro j hj
    cases j with
    | zero =>
      have e : 65 - (x :: ds).length + 0 = 64 - ds.length := by simp only [List.length_cons]; omega
      rw [e, Array.getElem?_setIfInBounds]
      simp [h.size]; omega
    | succ j =>
      have hj' : j < ds.length := by simpa using hj
      have := h.new j hj'
      rw [show 65 - (x :: ds).length + (j + 1) = 65 - ds.length + j by simp only [List.length_cons]; omega]
      rw [Array.getElem?_setIfInBounds_ne (by omega)]
      simpa using this
abbrev digs : ByteArray := ⟨#[48, 49, 50, 51, 52, 53, 54, 55, 56, 57, 97, 98, 99, 100, 101, 102, 103, 104, 105, 106, 107, 108, 109, 110, 111, 112, 113, 114, 115, 116, 117, 118, 119, 120, 121, 122]⟩
theorem digs_at (k : Nat) (hk : k < 36) (h : k < digs.size) : digs[k] = dch k := by
  have : ∀ j : Fin 36, digs[j.val]'(by have := j.2; exact this) = dch j.val := by decide +kernel
  exact this ⟨k, hk⟩
theorem room_ (u v m : Nat) (hu : u < 18446744073709551616) (h : v * 2 ^ m ≤ u) (hv : 1 ≤ v) : m < 64 := by
  rcases Nat.lt_or_ge m 64 with h1 | h1
  · exact h1
  · have : 2 ^ 64 ≤ 2 ^ m := Nat.pow_le_pow_right (by omega) h1
    have : 1 * 2 ^ m ≤ v * 2 ^ m := Nat.mul_le_mul_right _ hv
    omega
end Go.Proofs.YtidlgdpjcognpaaDoor.X
