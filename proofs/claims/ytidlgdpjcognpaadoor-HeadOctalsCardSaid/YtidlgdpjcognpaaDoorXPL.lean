/- What head and its document lay. -/
import Derived.Test.YtidlgdpjcognpaaDoorXPI
import Derived.Test.YtidlgdpjcognpaaDoorX5
import Derived.Test.YtidlgdpjcognpaaDoorX6
import Derived.Test.YtidlgdpjcognpaaDoorPf23
import Derived.KernelRfl
namespace Go.Proofs.YtidlgdpjcognpaaDoor.X
open Go.RowKit Go.Proofs.YtidlgdpjcognpaaDoorW.PrintWords Go.Proofs.YtidlgdpjcognpaaDoor.P
set_option linter.unusedVariables false
set_option linter.unusedSimpArgs false

/-! ### plain words on texts and lists -/
theorem sumB_lt (xs : List Int) : -9223372036854775808 ≤ sumB xs ∧ sumB xs < 9223372036854775808 := by
  unfold sumB
  have : ∀ (l : List Int) (s : Int), (-9223372036854775808 ≤ s ∧ s < 9223372036854775808) → (-9223372036854775808 ≤ l.foldl (fun s x => wrap64 (s + wrap64 x)) s ∧ l.foldl (fun s x => wrap64 (s + wrap64 x)) s < 9223372036854775808) := by
    intro l
    induction l with
    | nil => intro s h; exact h
    | cons x l ih =>
      intro s h
      refine ih (wrap64 (s + wrap64 x)) ?_
      clear ih h
      generalize s + wrap64 x = y
      unfold wrap64
      omega
  exact this xs 0 (by omega)

/-! ### what may be laid -/
def MayR (a0 : ByteArray) (a1 a2 : Int) (a3 : ByteArray) : Prop :=
  a0.size ≠ 0 ∧ a0.size ≤ 100 ∧ (0 : UInt8) ∉ a0.data.toList ∧ a3.size ≤ 100 ∧ (0 : UInt8) ∉ a3.data.toList ∧ 1 ≤ a1 ∧ a1 ≤ 5 ∧ (a1 = 4 ↔ a3.size ≠ 0) ∧ (a2 = 0 ∨ (a1 ≠ 1 ∧ a1 ≠ 4))
instance (a0 : ByteArray) (a1 a2 : Int) (a3 : ByteArray) : Decidable (MayR a0 a1 a2 a3) := by unfold MayR; infer_instance
def modeR (k : Int) : ByteArray := if k = 1 ∨ k = 3 then ⟨#[48, 48, 48, 48, 55, 53, 53]⟩ else if k = 4 then ⟨#[48, 48, 48, 48, 55, 55, 55]⟩ else ⟨#[48, 48, 48, 48, 54, 52, 52]⟩
def signR (k : Int) : UInt8 := if k = 1 then 53 else if k = 4 then 50 else if k = 5 then 120 else 48
def laidR (a0 : ByteArray) (a1 : Int) (n : Nat) (a3 : ByteArray) : List Int := laid0 a0 (modeR a1) ⟨(octP 11 n).toArray⟩ ⟨#[signR a1]⟩ a3
def layB (a0 : ByteArray) (a1 : Int) (n : Nat) (a3 : ByteArray) : List Int := putB (laidR a0 a1 n a3) 148 ((octR (sumB (laidR a0 a1 n a3)) 6).1 ++ ⟨#[0, 32]⟩)
def layR (a0 : ByteArray) (a1 a2 : Int) (a3 : ByteArray) : List Int × Bool := if MayR a0 a1 a2 a3 ∧ 0 ≤ a2 ∧ a2.toNat < 8589934592 then (layB a0 a1 a2.toNat a3, true) else ([], false)
theorem octR_yes (n : Nat) (h : n < 8589934592) : octR (n : Int) 11 = (⟨(octP 11 n).toArray⟩, true) := by
  unfold octR
  rw [if_pos ⟨by omega, by omega, by omega, by rw [Int.toNat_natCast]; exact h⟩]
  rfl
theorem octR_no (a : Int) (h : ¬ (0 ≤ a ∧ a.toNat < 8589934592)) : octR a 11 = (⟨#[]⟩, false) := by
  unfold octR
  rw [if_neg (fun x => h ⟨x.1, x.2.2.2⟩)]
theorem octR_size (a : Int) : (octR a 6).1.size ≤ 6 := by
  unfold octR
  split
  · rw [size_mk, octP_length]; exact Nat.le_refl 6
  · decide

theorem text_eq (s : ByteArray) : head_text.f s = some (decide (s.size ≤ 100 ∧ (0 : UInt8) ∉ s.data.toList)) := by
  unfold head_text.f
  by_cases h : s.size ≤ 100
  · rw [if_pos (by omega)]
    show some (decide (Lib.indexByte s.data.toList 0 < 0)) = _
    congr 1
    rw [decide_eq_decide, indexByte_none]
    simp [h]
  · rw [if_neg (by omega), decide_eq_false (fun x => h x.1)]
theorem may_eq (a0 : ByteArray) (a1 a2 : Int) (a3 : ByteArray) : head_may.f a0 a1 a2 a3 = some (decide (MayR a0 a1 a2 a3)) := by
  unfold head_may.f
  by_cases h0 : a0.size = 0
  · rw [if_pos ((toList_nil a0).2 h0), decide_eq_false (fun x => x.1 h0)]
  rw [if_neg (fun x => h0 ((toList_nil a0).1 x)), text_eq]
  simp only [Option.bind_some]
  by_cases h1 : a0.size ≤ 100 ∧ (0 : UInt8) ∉ a0.data.toList
  rotate_left
  · rw [if_neg (by rw [decide_eq_true_iff]; exact h1), decide_eq_false (fun x => h1 ⟨x.2.1, x.2.2.1⟩)]
  rw [if_pos (by rw [decide_eq_true_iff]; exact h1), text_eq]
  simp only [Option.bind_some]
  by_cases h2 : a3.size ≤ 100 ∧ (0 : UInt8) ∉ a3.data.toList
  rotate_left
  · rw [if_neg (by rw [decide_eq_true_iff]; exact h2), decide_eq_false (fun x => h2 ⟨x.2.2.2.1, x.2.2.2.2.1⟩)]
  rw [if_pos (by rw [decide_eq_true_iff]; exact h2)]
  by_cases h3 : a1 < 1
  · rw [if_pos h3, decide_eq_false (fun x => by have := x.2.2.2.2.2.1; omega)]
  rw [if_neg h3]
  by_cases h4 : 5 < a1
  · rw [if_pos (by omega), decide_eq_false (fun x => by have := x.2.2.2.2.2.2.1; omega)]
  rw [if_neg (by omega)]
  have e3 : (a3.toList != ([] : List UInt8)) = decide (a3.size ≠ 0) := by
    rw [Bool.eq_iff_iff, bne_iff_ne, decide_eq_true_iff]
    exact not_congr (toList_nil a3)
  have e4 : (a1 == 4) = decide (a1 = 4) := by rw [Bool.eq_iff_iff, beq_iff_eq, decide_eq_true_iff]
  rw [e3, e4]
  by_cases h5 : a1 = 4 ↔ a3.size ≠ 0
  rotate_left
  · rw [if_neg (by rw [beq_iff_eq, decide_eq_decide]; exact fun x => h5 x.symm), decide_eq_false (fun x => h5 x.2.2.2.2.2.2.2.1)]
  rw [if_pos (by rw [beq_iff_eq, decide_eq_decide]; exact h5.symm)]
  by_cases h6 : a2 = 0
  · rw [if_pos h6, decide_eq_true]
    exact ⟨h0, h1.1, h1.2, h2.1, h2.2, by omega, by omega, h5, Or.inl h6⟩
  rw [if_neg h6]
  by_cases h7 : a1 = 1
  · rw [if_pos h7, decide_eq_false (fun x => by have := x.2.2.2.2.2.2.2.2; omega)]
  rw [if_neg h7]
  congr 1
  by_cases h8 : a1 = 4
  · rw [decide_eq_false (fun x => by have := x.2.2.2.2.2.2.2.2; omega), h8]; rfl
  · rw [decide_eq_true (show MayR a0 a1 a2 a3 from ⟨h0, h1.1, h1.2, h2.1, h2.2, by omega, by omega, h5, Or.inr ⟨h7, h8⟩⟩)]
    simpa using h8
theorem mode_eq (k : Nat) (a : Int) : head_mode.f (k + 1) a = some (modeR a) := by
  unfold head_mode.f modeR
  by_cases h1 : a = 1
  · subst h1; rfl
  rw [if_neg h1]
  simp only [head_mode.j0]
  by_cases h3 : a = 3
  · subst h3; rfl
  have e3 : (a == 3) = false := by simpa using h3
  rw [e3, if_neg (by simp), if_neg (show ¬ (a = 1 ∨ a = 3) by omega)]
  split <;> rfl
theorem sign_eq (a : Int) : head_sign.f a = some ⟨#[signR a]⟩ := by
  unfold head_sign.f signR
  split
  · rfl
  split
  · rfl
  split <;> rfl
theorem modeR_size (a : Int) : (modeR a).size = 7 := by
  unfold modeR
  split
  · rfl
  split <;> rfl

theorem lay_eq (k : Nat) (a0 : ByteArray) (a1 a2 : Int) (a3 : ByteArray) (h2 : a2 < 9223372036854775808) : head_Lay.f (k + 1) a0 a1 a2 a3 = some (layR a0 a1 a2 a3) := by
  unfold head_Lay.f layR
  rw [octal_eq k a2 11 h2]
  simp only [Option.bind_some]
  by_cases h : 0 ≤ a2 ∧ a2.toNat < 8589934592
  rotate_left
  · rw [octR_no a2 h, if_neg (by simp), if_neg (fun x => h x.2)]
  obtain ⟨n, rfl⟩ := Int.eq_ofNat_of_zero_le h.1
  have hn : n < 8589934592 := by have := h.2; omega
  rw [octR_yes n hn, may_eq]
  simp only [if_true, Option.bind_some]
  by_cases hm : MayR a0 a1 n a3
  rotate_left
  · rw [if_neg (by simpa using hm), if_neg (fun x => hm x.1)]
  rw [if_pos (by simpa using hm), if_pos ⟨hm, h⟩, mode_eq, sign_eq]
  simp only [Option.bind_some]
  have e1 : (⟨#[signR a1]⟩ : ByteArray).size = 1 := rfl
  rw [if_pos ⟨by have := hm.2.1; omega, by rw [modeR_size]; omega, by rw [size_mk, octP_length]; omega, by rw [e1]; omega, by have := hm.2.2.2.1; omega⟩, octal_eq k _ 6 (sumB_lt _).2]
  simp only [Option.bind_some]
  rw [if_pos (by have := octR_size (sumB (laid0 a0 (modeR a1) ⟨(octP 11 n).toArray⟩ ⟨#[signR a1]⟩ a3)); omega), Int.toNat_natCast]
  rfl
end Go.Proofs.YtidlgdpjcognpaaDoor.X
