/- What the document of head lays is what head lays; the chapter's awake; HeadOctals and HeadLays as the printed functions tell them. -/
import Derived.Test.YtidlgdpjcognpaaDoorXPL
import Derived.Test.YtidlgdpjcognpaaDoorPf6
namespace Go.Proofs.YtidlgdpjcognpaaDoor.X
open Go.RowKit Go.Proofs.YtidlgdpjcognpaaDoorW.PrintWords Go.Proofs.YtidlgdpjcognpaaDoor.P
set_option linter.unusedVariables false
set_option linter.unusedSimpArgs false

theorem zero_l0 (s : ByteArray) (hn : s.size ≤ 9223372036854775807) : ∀ (d i : Nat), s.size - i = d → i ≤ s.size → Ev (fun k => hogsheadref12_zero.l0 k s (i : Int)) (decide ((0 : UInt8) ∈ s.data.toList.drop i)) := by
  intro d
  induction d with
  | zero =>
    intro i hd hi
    refine ⟨1, fun k hk => ?_⟩
    obtain ⟨k, rfl⟩ : ∃ m, k = m + 1 := ⟨k - 1, by omega⟩
    simp only [hogsheadref12_zero.l0]
    rw [if_neg (by omega), List.drop_eq_nil_of_le (by rw [data_length]; omega)]
    rfl
  | succ d ih =>
    intro i hd hi
    have hlt : i < s.size := by omega
    obtain ⟨K, hK⟩ := ih (i + 1) (by omega) (by omega)
    refine ⟨K + 1, fun k hk => ?_⟩
    obtain ⟨k, rfl⟩ : ∃ m, k = m + 1 := ⟨k - 1, by omega⟩
    simp only [hogsheadref12_zero.l0]
    rw [if_pos (by omega), if_pos (by omega), bt_nat s i hlt, drop_data s i hlt]
    generalize s.data.toList[i]'(by rw [data_length]; exact hlt) = c
    by_cases e : c = 0
    · subst e
      rw [if_pos (show (((0 : UInt8).toNat : Nat) : Int) = 0 from rfl), decide_eq_true List.mem_cons_self]
    · have ne : ¬ (c.toNat : Int) = 0 := fun x => e (UInt8.toNat_inj.1 (by have : (0 : UInt8).toNat = 0 := rfl; omega))
      rw [if_neg ne, wrap_i i s.size hlt hn]
      have := hK k (by omega)
      simp only at this
      rw [this]
      congr 1
      rw [decide_eq_decide, List.mem_cons]
      exact ⟨Or.inr, fun x => x.elim (fun y => absurd y.symm e) id⟩
theorem zero_eq (s : ByteArray) (hn : s.size ≤ 9223372036854775807) : Ev (fun k => hogsheadref12_zero.f k s) (decide ((0 : UInt8) ∈ s.data.toList)) := zero_l0 s hn s.size 0 (by omega) (by omega)

theorem kinds (a : Int) (h1 : 1 ≤ a) (h5 : a ≤ 5) : a = 1 ∨ a = 2 ∨ a = 3 ∨ a = 4 ∨ a = 5 := by omega
theorem ref_mode_eq (a : Int) (h1 : 1 ≤ a) (h5 : a ≤ 5) : hogsheadref12_mode.f a = some (modeR a) := by
  rcases kinds a h1 h5 with rfl | rfl | rfl | rfl | rfl <;> rfl
theorem ref_letter_eq (a : Int) (h1 : 1 ≤ a) (h5 : a ≤ 5) : hogsheadref12_letter.f a = some ((signR a).toNat : Int) := by
  rcases kinds a h1 h5 with rfl | rfl | rfl | rfl | rfl <;> rfl
theorem putB_one (xs : List Int) (p : Nat) (c : UInt8) (h : p < xs.length) : putB xs p ⟨#[c]⟩ = xs.set p (c.toNat : Int) := by
  rw [List.set_eq_take_append_cons_drop, if_pos h]
  show xs.take p ++ [(c.toNat : Int)] ++ xs.drop (p + 1) = _
  rw [List.append_assoc]
  rfl
theorem rlaid_eq (name md dg link : ByteArray) (c : UInt8) (h0 : name.size ≤ 100) (h1 : md.size ≤ 400) (h2 : dg.size ≤ 300) : rlaid0 name md dg (c.toNat : Int) link = laid0 name md dg ⟨#[c]⟩ link := by
  unfold rlaid0 laid0
  rw [putB_one]
  have z : zeros512.length = 512 := by rw [zeros512, List.length_replicate]
  have s7 : (⟨#[48, 48, 48, 48, 48, 48, 48]⟩ : ByteArray).size = 7 := rfl
  have s11 : (⟨#[48, 48, 48, 48, 48, 48, 48, 48, 48, 48, 48]⟩ : ByteArray).size = 11 := rfl
  have s8 : (⟨#[32, 32, 32, 32, 32, 32, 32, 32]⟩ : ByteArray).size = 8 := rfl
  have l1 : (putB zeros512 0 name).length = 512 := by rw [putB_length (by rw [z]; omega), z]
  have l2 : (putB (putB zeros512 0 name) 100 md).length = 512 := by rw [putB_length (by rw [l1]; omega), l1]
  have l3 := putB_length (xs := putB (putB zeros512 0 name) 100 md) (p := 108) (s := ⟨#[48, 48, 48, 48, 48, 48, 48]⟩) (by rw [l2, s7]; omega)
  rw [l2] at l3
  generalize putB (putB (putB zeros512 0 name) 100 md) 108 ⟨#[48, 48, 48, 48, 48, 48, 48]⟩ = x3 at *
  have l4 := putB_length (xs := x3) (p := 116) (s := ⟨#[48, 48, 48, 48, 48, 48, 48]⟩) (by rw [l3, s7]; omega)
  rw [l3] at l4
  generalize putB x3 116 ⟨#[48, 48, 48, 48, 48, 48, 48]⟩ = x4 at *
  have l5 := putB_length (xs := x4) (p := 124) (s := dg) (by rw [l4]; omega)
  rw [l4] at l5
  generalize putB x4 124 dg = x5 at *
  have l6 := putB_length (xs := x5) (p := 136) (s := ⟨#[48, 48, 48, 48, 48, 48, 48, 48, 48, 48, 48]⟩) (by rw [l5, s11]; omega)
  rw [l5] at l6
  generalize putB x5 136 ⟨#[48, 48, 48, 48, 48, 48, 48, 48, 48, 48, 48]⟩ = x6 at *
  rw [putB_length (by rw [l6, s8]; omega), l6]
  omega

set_option maxHeartbeats 1600000 in
theorem ref_lay_eq (a0 : ByteArray) (a1 a2 : Int) (a3 : ByteArray) (h2 : a2 < 9223372036854775808) : Ev (fun k => hogsheadref12_Lay.f k a0 a1 a2 a3) (layR a0 a1 a2 a3) := by
  by_cases g0 : a0.size = 0
  · refine ⟨0, fun k hk => ?_⟩
    show hogsheadref12_Lay.f k a0 a1 a2 a3 = _
    unfold hogsheadref12_Lay.f layR
    rw [if_pos ((toList_nil a0).2 g0), if_neg (fun x => x.1.1 g0)]
  by_cases g1 : (100 : Int) < a0.size
  · refine ⟨0, fun k hk => ?_⟩
    show hogsheadref12_Lay.f k a0 a1 a2 a3 = _
    unfold hogsheadref12_Lay.f layR
    rw [if_neg (fun x => g0 ((toList_nil a0).1 x)), if_pos g1, if_neg (fun x => by have := x.1.2.1; omega)]
  obtain ⟨K0, k0⟩ := zero_eq a0 (by omega)
  by_cases g2 : (0 : UInt8) ∈ a0.data.toList
  · refine ⟨K0, fun k hk => ?_⟩
    have k0 := k0 k (by omega)
    simp only at k0
    show hogsheadref12_Lay.f k a0 a1 a2 a3 = _
    unfold hogsheadref12_Lay.f layR
    rw [if_neg (fun x => g0 ((toList_nil a0).1 x)), if_neg g1, k0, decide_eq_true g2, if_neg (show ¬ (MayR a0 a1 a2 a3 ∧ 0 ≤ a2 ∧ a2.toNat < 8589934592) from fun x => x.1.2.2.1 g2)]
    rfl
  by_cases g3 : (100 : Int) < a3.size
  · refine ⟨K0, fun k hk => ?_⟩
    have k0 := k0 k (by omega)
    simp only at k0
    show hogsheadref12_Lay.f k a0 a1 a2 a3 = _
    unfold hogsheadref12_Lay.f layR
    rw [if_neg (fun x => g0 ((toList_nil a0).1 x)), if_neg g1, k0, decide_eq_false g2]
    simp only [Option.bind_some]
    rw [if_neg (by simp), if_pos g3, if_neg (fun x => by have := x.1.2.2.2.1; omega)]
  obtain ⟨K1, k1⟩ := zero_eq a3 (by omega)
  refine ⟨K0 + K1 + 14, fun k hk => ?_⟩
  have k0 := k0 k (by omega)
  have k1 := k1 k (by omega)
  simp only at k0 k1
  show hogsheadref12_Lay.f k a0 a1 a2 a3 = _
  unfold hogsheadref12_Lay.f layR
  rw [if_neg (fun x => g0 ((toList_nil a0).1 x)), if_neg g1, k0, decide_eq_false g2, k1]
  simp only [Option.bind_some]
  rw [if_neg (by simp), if_neg g3]
  by_cases g4 : (0 : UInt8) ∈ a3.data.toList
  · rw [decide_eq_true g4, if_pos rfl, if_neg (fun x => x.1.2.2.2.2.1 g4)]
  rw [decide_eq_false g4, if_neg (by simp)]
  by_cases g5 : a1 < 1
  · rw [if_pos g5, if_neg (fun x => by have := x.1.2.2.2.2.2.1; omega)]
  rw [if_neg g5]
  by_cases g6 : 5 < a1
  · rw [if_pos g6, if_neg (fun x => by have := x.1.2.2.2.2.2.2.1; omega)]
  rw [if_neg g6]
  have e3 : (a3.toList == ([] : List UInt8)) = decide (a3.size = 0) := by
    rw [Bool.eq_iff_iff, beq_iff_eq, decide_eq_true_iff]
    exact toList_nil a3
  have e4 : (a1 == 4) = decide (a1 = 4) := by rw [Bool.eq_iff_iff, beq_iff_eq, decide_eq_true_iff]
  rw [e3, e4]
  by_cases g7 : (a1 = 4 ↔ a3.size ≠ 0)
  rotate_left
  · rw [if_pos (by by_cases x : a1 = 4 <;> by_cases y : a3.size = 0 <;> simp [x, y] at g7 ⊢), if_neg (show ¬ (MayR a0 a1 a2 a3 ∧ 0 ≤ a2 ∧ a2.toNat < 8589934592) from fun x => g7 x.1.2.2.2.2.2.2.2.1)]
  rw [if_neg (by by_cases x : a1 = 4 <;> by_cases y : a3.size = 0 <;> simp [x, y] at g7 ⊢)]
  by_cases g8 : (a1 = 1 ∨ a1 = 4) ∧ a2 ≠ 0
  · rw [if_pos g8, if_neg (fun x => by have := x.1.2.2.2.2.2.2.2.2; omega)]
  rw [if_neg g8]
  have hm : MayR a0 a1 a2 a3 := ⟨g0, by omega, g2, by omega, g4, by omega, by omega, g7, by omega⟩
  unfold hogsheadref12_Lay.g
  rw [ref_octal_eq k (by omega) a2 11 h2]
  simp only [Option.bind_some]
  by_cases h : 0 ≤ a2 ∧ a2.toNat < 8589934592
  rotate_left
  · rw [octR_no a2 h, if_neg (by simp), if_neg (fun x => h x.2)]
  obtain ⟨n, rfl⟩ := Int.eq_ofNat_of_zero_le h.1
  have hn : n < 8589934592 := by have := h.2; omega
  rw [octR_yes n hn, ref_mode_eq a1 (by omega) (by omega), ref_letter_eq a1 (by omega) (by omega), if_pos (show MayR a0 a1 (n : Int) a3 ∧ 0 ≤ (n : Int) ∧ (n : Int).toNat < 8589934592 from ⟨hm, h⟩)]
  simp only [if_true, Option.bind_some]
  rw [if_pos ⟨by rw [modeR_size]; omega, by rw [size_mk, octP_length]; omega⟩, rlaid_eq a0 _ _ _ _ (by omega) (by rw [modeR_size]; omega) (by rw [size_mk, octP_length]; omega), ref_octal_eq k (by omega) _ 6 (sumB_lt _).2]
  simp only [Option.bind_some]
  rw [if_pos (by have := octR_size (sumB (laid0 a0 (modeR a1) ⟨(octP 11 n).toArray⟩ ⟨#[signR a1]⟩ a3)); omega), Int.toNat_natCast]
  rfl

/-! ### awake -/
theorem layB_a : (layB ⟨#[97]⟩ 2 3 ⟨#[]⟩).length = 512 ∧ rd (layB ⟨#[97]⟩ 2 3 ⟨#[]⟩) 0 = 97 ∧ rd (layB ⟨#[97]⟩ 2 3 ⟨#[]⟩) 156 = 48 ∧ rd (layB ⟨#[97]⟩ 2 3 ⟨#[]⟩) 134 = 51 ∧ rd (layB ⟨#[97]⟩ 2 3 ⟨#[]⟩) 257 = 117 := by decide +kernel
theorem layR_a : layR ⟨#[97]⟩ 2 3 ⟨#[]⟩ = (layB ⟨#[97]⟩ 2 3 ⟨#[]⟩, true) := by
  unfold layR
  rw [if_pos (by decide)]
  rfl
theorem awake12_eq : Ev (fun k => hogsheadlaw12_awake.f k) true := by
  obtain ⟨K1, k1⟩ := ofOctal_eq ⟨#[48, 49, 56]⟩
  refine ⟨K1 + 1, fun k hk => ?_⟩
  have k1 := k1 k (by omega)
  obtain ⟨k, rfl⟩ : ∃ m, k = m + 1 := ⟨k - 1, by omega⟩
  simp only at k1
  show hogsheadlaw12_awake.f _ = _
  unfold hogsheadlaw12_awake.f
  obtain ⟨l0, l1, l2, l3, l4⟩ := layB_a
  have e1 : octR 8 3 = (⟨#[48, 49, 48]⟩, true) := by decide +kernel
  have e2 : (ofOctR ⟨#[48, 49, 56]⟩).2 = false := by decide +kernel
  rw [octal_eq _ _ _ (by decide), k1, lay_eq _ _ _ _ _ (by decide), e1, layR_a]
  simp only [Option.bind_some]
  have e3 : (⟨#[48, 49, 48]⟩ : ByteArray).toList = [48, 49, 48] := by rw [ByteArray.toList_eq]
  generalize layB ⟨#[97]⟩ 2 3 ⟨#[]⟩ = b at *
  simp only [e3, e2, l0, l1, l2, l3, l4, if_true, Bool.false_eq_true, if_false]
  decide

/-! ### HeadOctals -/
theorem headOctals_pure (a0 a1 : Int) (a2 : ByteArray) (h0 : a0 < 9223372036854775808) : Ev (fun k => hogsheadlaw12_HeadOctals.f k a0 a1 a2) true := by
  obtain ⟨K0, k0⟩ := awake12_eq
  obtain ⟨K1, k1⟩ := ofOctal_eq a2
  obtain ⟨K2, k2⟩ := ref_ofOctal_eq a2
  obtain ⟨K3, k3⟩ := ofOctal_eq (octR a0 a1).1
  refine ⟨K0 + K1 + K2 + K3 + 16, fun k hk => ?_⟩
  obtain ⟨k, rfl⟩ : ∃ m, k = m + 1 := ⟨k - 1, by omega⟩
  have k00 := k0 k (by omega)
  have k0 := k0 (k + 1) (by omega)
  have k1 := k1 (k + 1) (by omega)
  have k2 := k2 (k + 1) (by omega)
  have k3 := k3 k (by omega)
  simp only at k0 k1 k2 k3 k00
  show hogsheadlaw12_HeadOctals.f _ a0 a1 a2 = _
  unfold hogsheadlaw12_HeadOctals.f
  by_cases g : (a2.size : Int) > 20
  · rw [if_pos g, k0]; rfl
  rw [if_neg g, octal_eq _ _ _ h0, ref_octal_eq _ (by omega) _ _ h0, k1, k2]
  simp only [Option.bind_some]
  simp only [if_true, bne_self_eq_false, Bool.false_eq_true, if_false]
  simp only [hogsheadlaw12_HeadOctals.j0]
  rw [if_neg (by simp)]
  by_cases c : (octR a0 a1).2 = true
  · rw [if_pos c, k3]
    simp only [Option.bind_some]
    have hc : 0 ≤ a0 ∧ 1 ≤ a1 ∧ a1 ≤ 11 ∧ a0.toNat < 8 ^ a1.toNat := by
      unfold octR at c
      split at c
      · assumption
      · cases c
    have ho : (octR a0 a1).1 = ⟨(octP a1.toNat a0.toNat).toArray⟩ := by
      unfold octR
      rw [if_pos hc]
    rw [ho, ofOct_octP _ _ (by have := hc.2.1; omega) (by have := hc.2.2.1; omega) hc.2.2.2, if_pos (Int.toNat_of_nonneg hc.1), if_pos rfl, size_mk, octP_length, if_pos (Int.toNat_of_nonneg (by have := hc.2.1; omega)), k00]
    rfl
  · rw [if_neg c, k00]
    rfl
end Go.Proofs.YtidlgdpjcognpaaDoor.X
