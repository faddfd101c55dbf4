/- SumTurned, as the printed functions tell it: true of every input. -/
import Derived.Test.YtidlgdpjcognpaaDoorXPT
import Derived.Test.YtidlgdpjcognpaaDoorPf5
namespace Go.Proofs.YtidlgdpjcognpaaDoor.X
open Go.RowKit Go.Proofs.YtidlgdpjcognpaaDoorW.PrintWords Go.Proofs.YtidlgdpjcognpaaDoor.P
set_option linter.unusedVariables false
set_option linter.unusedSimpArgs false

theorem low_eq (a n : Int) (h1 : 1 ≤ n) (h2 : n ≤ 9223372036854775807) : ∃ m : Nat, hogsheadlaw0_Low.f a n = some (m : Int) ∧ (m : Int) < n := by
  unfold hogsheadlaw0_Low.f
  have e : IntKind.u64.wrap n = n := by rw [IntKind.wrap_u64]; omega
  have ea : 0 ≤ IntKind.u64.wrap a := by rw [IntKind.wrap_u64]; omega
  rw [e, if_neg (by omega)]
  obtain ⟨u, hu⟩ := Int.eq_ofNat_of_zero_le ea
  obtain ⟨m, rfl⟩ := Int.eq_ofNat_of_zero_le (show 0 ≤ n by omega)
  rw [hu]
  have et : Int.tmod (u : Int) (m : Int) = ((u % m : Nat) : Int) := rfl
  have hl : u % m < m := Nat.mod_lt _ (by omega)
  rw [et]
  refine ⟨u % m, ?_, by omega⟩
  congr 1
  unfold wrap64
  omega
theorem xor_ne (b z : Nat) (hb : b < 256) (hz : z < 256) (h0 : z ≠ 0) : bits .xor .u8 (b : Int) (z : Int) ≠ (b : Int) ∧ 0 ≤ bits .xor .u8 (b : Int) (z : Int) ∧ bits .xor .u8 (b : Int) (z : Int) ≤ 255 := by
  rw [u8_xor_nat b z hb hz]
  have : b ^^^ z < 256 := Nat.xor_lt_two_pow (n := 8) (by omega) (by omega)
  refine ⟨fun e => h0 ?_, by omega, by omega⟩
  have e2 : b ^^^ z = b ^^^ 0 := by rw [Nat.xor_zero]; omega
  exact xor_cancel_left e2
theorem one_eq (xs : List Int) (hn : xs.length ≤ 9223372036854775807) : Ev (fun k => sum_One.f k xs) (sumL xs) := by
  obtain ⟨K, hK⟩ := of_eq [xs] (by simp) (by intro ys hy; simp at hy; subst hy; exact hn)
  exact ⟨K, fun k hk => by have := hK k hk; simpa [sum_One.f, sumP_one] using this⟩
theorem hexS_size (u : Int) : (hexS u).size = 16 := by simp [hexS, ByteArray.size, hexP_length]
theorem wrap_low (j : Nat) (h : (j : Int) < 255) : wrap64 (1 + (j : Int)) % 256 = ((1 + j : Nat) : Int) := by
  have e0 : wrap64 (1 + (j : Int)) = 1 + (j : Int) := by unfold wrap64; omega
  rw [e0, Int.emod_eq_of_lt (by omega) (by omega)]
  rfl
theorem sumTurned_pure (l0 : List Int) (a1 a2 a3 a4 : Int) (hl : ∀ x ∈ l0, 0 ≤ x ∧ x ≤ 255) (hm : l0.length ≤ 9223372036854775807) (h3 : 0 ≤ a3) (h3' : a3 < 18446744073709551616) (h4 : 0 ≤ a4) (h4' : a4 < 18446744073709551616) :
    Ev (fun k => hogsheadlaw6_SumTurned.f k l0 a1 a2 a3 a4) true := by
  obtain ⟨K1, k1⟩ := awake6_eq
  have hj : ∀ b : Bool, (b = true ∨ (0 < l0.length ∧ l0.length ≤ 300)) → Ev (fun k => hogsheadlaw6_SumTurned.j0 k l0 a1 a2 a3 a4 b) true := by
    intro b hb
    cases b with
    | true =>
      refine ⟨K1 + 1, fun k hk => ?_⟩
      obtain ⟨k, rfl⟩ : ∃ m, k = m + 1 := ⟨k - 1, by omega⟩
      have k1 := k1 k (by omega)
      simp only at k1
      simp only [hogsheadlaw6_SumTurned.j0]
      rw [if_pos trivial, k1]
      rfl
    | false =>
      have hb : 0 < l0.length ∧ l0.length ≤ 300 := by simpa using hb
      obtain ⟨i, hi, hi2⟩ := low_eq a1 (l0.length : Int) (by omega) (by omega)
      obtain ⟨j, hj, hj2⟩ := low_eq a2 255 (by omega) (by omega)
      have hil : i < l0.length := by omega
      have hx := hl _ (List.getElem_mem hil)
      obtain ⟨b, hbn⟩ := Int.eq_ofNat_of_zero_le hx.1
      have hb256 : b < 256 := by omega
      obtain ⟨x1, x2, x3⟩ := xor_ne b (1 + j) hb256 (by omega) (by omega)
      obtain ⟨K2, k2⟩ := one_eq l0 hm
      obtain ⟨K3, k3⟩ := one_eq (l0.set i (bits .xor .u8 (b : Int) ((1 + j : Nat) : Int))) (by rw [List.length_set]; exact hm)
      refine ⟨K1 + K2 + K3 + 1, fun k hk => ?_⟩
      obtain ⟨k, rfl⟩ : ∃ m, k = m + 1 := ⟨k - 1, by omega⟩
      have k1 := k1 k (by omega)
      have k2 := k2 k (by omega)
      have k3 := k3 k (by omega)
      simp only at k1 k2 k3
      have ew := wrap_low j hj2
      have hne := sum_turned l0 hl i hil _ x2 x3 (by rw [hbn]; exact x1.symm)
      obtain ⟨c1, c2⟩ := hexP_less 16 a3.toNat a4.toNat (by omega) (by omega)
      simp only [hogsheadlaw6_SumTurned.j0]
      rw [if_neg (by simp), if_pos (by simp; omega)]
      simp only [Option.bind_some, List.nil_append]
      rw [hi]
      simp only [Option.bind_some]
      rw [if_pos (by omega), if_pos (by omega), hj]
      simp only [Option.bind_some]
      rw [k2]
      simp only [Option.bind_some]
      rw [Int.toNat_natCast, rd_getElem l0 i hil, hbn, ew, k3]
      simp only [Option.bind_some]
      rw [if_neg hne, hex_eq a3 h3 h3', hex_eq a4 h4 h4']
      simp only [Option.bind_some]
      rw [hexS_toList, hexS_toList, c1, c2, hexS_size]
      have e1 : decide (a3.toNat = a4.toNat) = (a3 == a4) := by
        rw [Bool.eq_iff_iff]; simp; omega
      have e2 : decide (a3.toNat < a4.toNat) = decide (a3 < a4) := by
        rw [Bool.eq_iff_iff]; simp; omega
      rw [e1, e2, if_pos (by simp), if_pos (by simp), if_pos (by rfl), k1]
      rfl
  by_cases hlong : (l0.length : Int) > 300
  · obtain ⟨K, hK⟩ := hj true (Or.inl rfl)
    exact ⟨K, fun k hk => by show hogsheadlaw6_SumTurned.f k l0 a1 a2 a3 a4 = _; unfold hogsheadlaw6_SumTurned.f; rw [if_pos hlong]; exact hK k hk⟩
  · obtain ⟨K, hK⟩ := hj ((l0.length : Int) == 0) (by
      by_cases h0 : l0.length = 0
      · left; simp [h0]
      · right; omega)
    exact ⟨K, fun k hk => by show hogsheadlaw6_SumTurned.f k l0 a1 a2 a3 a4 = _; unfold hogsheadlaw6_SumTurned.f; rw [if_neg hlong]; exact hK k hk⟩
end Go.Proofs.YtidlgdpjcognpaaDoor.X
