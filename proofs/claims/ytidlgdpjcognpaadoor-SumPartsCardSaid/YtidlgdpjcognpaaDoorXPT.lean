/- With one byte another one a sum is another one; digits tell numbers apart, and in their order: plain numbers and lists. -/
import Derived.Test.YtidlgdpjcognpaaDoorXPS
import Derived.Laws.BitsAllLaws
namespace Go.Proofs.YtidlgdpjcognpaaDoor.X
open Go.RowKit Go.Proofs.YtidlgdpjcognpaaDoorW.PrintWords Go.Proofs.YtidlgdpjcognpaaDoor.P
set_option linter.unusedVariables false
set_option linter.unusedSimpArgs false

theorem xor_cancel_right {a b c : Nat} (h : a ^^^ c = b ^^^ c) : a = b := by
  have := congrArg (· ^^^ c) h
  simpa [Nat.xor_assoc] using this
theorem xor_cancel_left {a b c : Nat} (h : c ^^^ a = c ^^^ b) : a = b := by
  rw [Nat.xor_comm c a, Nat.xor_comm c b] at h
  exact xor_cancel_right h
/-- a product with that odd number, as 64 bits that go round, tells its factor -/
theorem mul_cancel {a b : Nat} (ha : a < 18446744073709551616) (hb : b < 18446744073709551616) (h : a * 1099511628211 % 18446744073709551616 = b * 1099511628211 % 18446744073709551616) : a = b := by
  have key : ∀ x : Nat, x < 18446744073709551616 → (x * 1099511628211 % 18446744073709551616) * 14886173955864302971 % 18446744073709551616 = x := by
    intro x hx
    rw [Nat.mod_mul_mod, Nat.mul_assoc, show 1099511628211 * 14886173955864302971 = 887285111055 * 18446744073709551616 + 1 by decide, Nat.mul_add, Nat.mul_one, ← Nat.mul_assoc, Nat.mul_add_mod_self_right]
    exact Nat.mod_eq_of_lt hx
  rw [← key a ha, ← key b hb, h]
theorem nextN_nat (h b : Nat) (hh : h < 18446744073709551616) (hb : b < 256) : nextN h b = (((h ^^^ b) * 1099511628211 % 18446744073709551616 : Nat) : Int) := by
  unfold nextN
  have e : IntKind.u64.wrap (b : Int) = (b : Int) := by rw [IntKind.wrap_u64]; omega
  rw [e, u64_xor_nat h b hh (by omega), IntKind.wrap_u64]
  omega
theorem xor_lt (h b : Nat) (hh : h < 18446744073709551616) (hb : b < 256) : h ^^^ b < 18446744073709551616 := Nat.xor_lt_two_pow (n := 64) (by omega) (by omega)
theorem nextN_inj_left {h g b : Int} (h0 : 0 ≤ h) (h1 : h < 18446744073709551616) (g0 : 0 ≤ g) (g1 : g < 18446744073709551616) (b0 : 0 ≤ b) (b1 : b ≤ 255) (e : nextN h b = nextN g b) : h = g := by
  obtain ⟨h, rfl⟩ := Int.eq_ofNat_of_zero_le h0
  obtain ⟨g, rfl⟩ := Int.eq_ofNat_of_zero_le g0
  obtain ⟨b, rfl⟩ := Int.eq_ofNat_of_zero_le b0
  rw [nextN_nat h b (by omega) (by omega), nextN_nat g b (by omega) (by omega)] at e
  have := mul_cancel (xor_lt h b (by omega) (by omega)) (xor_lt g b (by omega) (by omega)) (Int.ofNat_inj.1 e)
  have := xor_cancel_right this
  omega
theorem nextN_inj_right {h b c : Int} (h0 : 0 ≤ h) (h1 : h < 18446744073709551616) (b0 : 0 ≤ b) (b1 : b ≤ 255) (c0 : 0 ≤ c) (c1 : c ≤ 255) (e : nextN h b = nextN h c) : b = c := by
  obtain ⟨h, rfl⟩ := Int.eq_ofNat_of_zero_le h0
  obtain ⟨c, rfl⟩ := Int.eq_ofNat_of_zero_le c0
  obtain ⟨b, rfl⟩ := Int.eq_ofNat_of_zero_le b0
  rw [nextN_nat h b (by omega) (by omega), nextN_nat h c (by omega) (by omega)] at e
  have := mul_cancel (xor_lt h b (by omega) (by omega)) (xor_lt h c (by omega) (by omega)) (Int.ofNat_inj.1 e)
  have := xor_cancel_left this
  omega
theorem sumL_inj (xs : List Int) (hx : ∀ x ∈ xs, 0 ≤ x ∧ x ≤ 255) : ∀ h g : Int, 0 ≤ h → h < 18446744073709551616 → 0 ≤ g → g < 18446744073709551616 → sumL xs h = sumL xs g → h = g := by
  induction xs with
  | nil => exact fun h g _ _ _ _ e => e
  | cons x xs ih =>
    intro h g h0 h1 g0 g1 e
    have h2 := nextN_range h x
    have g2 := nextN_range g x
    have e2 := ih (fun y hy => hx y (List.mem_cons_of_mem _ hy)) _ _ h2.1 h2.2 g2.1 g2.2 e
    have hb := hx x (List.mem_cons_self)
    exact nextN_inj_left h0 h1 g0 g1 hb.1 hb.2 e2
/-- another byte at one place: another sum -/
theorem sum_turned (xs : List Int) (hx : ∀ x ∈ xs, 0 ≤ x ∧ x ≤ 255) (i : Nat) (hi : i < xs.length) (y : Int) (y0 : 0 ≤ y) (y1 : y ≤ 255) (hne : xs[i] ≠ y) : sumL xs ≠ sumL (xs.set i y) := by
  intro e
  have e1 : xs = xs.take i ++ xs[i] :: xs.drop (i + 1) := by rw [← List.drop_eq_getElem_cons hi, List.take_append_drop]
  have e2 : xs.set i y = xs.take i ++ y :: xs.drop (i + 1) := List.set_eq_take_append_cons_drop .. |>.trans (by rw [if_pos hi])
  rw [e2] at e
  conv at e => lhs; rw [e1]
  rw [sumL_append, sumL_append] at e
  have hr := sumL_range' (xs.take i)
  have hy : ∀ z ∈ xs.drop (i + 1), 0 ≤ z ∧ z ≤ 255 := fun z hz => hx z (List.mem_of_mem_drop hz)
  have r1 := nextN_range (sumL (xs.take i)) xs[i]
  have r2 := nextN_range (sumL (xs.take i)) y
  have e3 := sumL_inj _ hy _ _ r1.1 r1.2 r2.1 r2.2 e
  have hb := hx _ (List.getElem_mem hi)
  exact hne (nextN_inj_right hr.1 hr.2 hb.1 hb.2 y0 y1 e3)

/-! ### digits tell numbers apart, in order -/
theorem dch_lt {a b : Nat} (ha : a < 16) (hb : b < 16) : (dch a < dch b) = (a < b) ∧ ((dch a = dch b) = (a = b)) := by
  have : ∀ i j : Fin 16, ((dch i.val < dch j.val) ↔ i.val < j.val) ∧ ((dch i.val = dch j.val) ↔ i.val = j.val) := by decide +kernel
  have h := this ⟨a, ha⟩ ⟨b, hb⟩
  exact ⟨propext h.1, propext h.2⟩
theorem hexP_less : ∀ n g h, g < 16 ^ n → h < 16 ^ n → Op.bytesLess (hexP n g) (hexP n h) = decide (g < h) ∧ ((hexP n g == hexP n h) = decide (g = h))
  | 0, g, h, hg, hh => by
    have : g = 0 := by omega
    have : h = 0 := by omega
    subst g; subst h
    simp [hexP, Op.bytesLess]
  | n + 1, g, h, hg, hh => by
    have ep : 16 ^ (n + 1) = 16 ^ n * 16 := Nat.pow_succ ..
    have hp : 0 < 16 ^ n := Nat.pow_pos (by omega)
    have modg : ∀ n u, hexP n u = hexP n (u % 16 ^ n) := by
      intro n
      induction n with
      | zero => intro u; rfl
      | succ n ih =>
        intro u
        rw [hexP, hexP, ih (u / 16), ih (u % 16 ^ (n + 1) / 16)]
        have e1 : u % 16 ^ (n + 1) / 16 % 16 ^ n = u / 16 % 16 ^ n := by
          rw [Nat.pow_succ, Nat.mul_comm, Nat.mod_mul_right_div_self, Nat.mod_mod]
        have e2 : u % 16 ^ (n + 1) % 16 = u % 16 := by
          rw [Nat.pow_succ]; exact Nat.mod_mul_left_mod ..
        rw [e1, e2]
    have dg : g / 16 ^ n < 16 := by rw [Nat.div_lt_iff_lt_mul hp]; omega
    have dh : h / 16 ^ n < 16 := by rw [Nat.div_lt_iff_lt_mul hp]; omega
    rw [hexP_front, hexP_front, modg n g, modg n h, Nat.mod_eq_of_lt dg, Nat.mod_eq_of_lt dh]
    obtain ⟨ih1, ih2⟩ := hexP_less n (g % 16 ^ n) (h % 16 ^ n) (Nat.mod_lt _ hp) (Nat.mod_lt _ hp)
    obtain ⟨c1, c2⟩ := dch_lt dg dh
    have mg := Nat.div_add_mod g (16 ^ n)
    have mh := Nat.div_add_mod h (16 ^ n)
    have lg := Nat.mod_lt g hp
    have lh := Nat.mod_lt h hp
    generalize 16 ^ n = M at *
    generalize g / M = a at *
    generalize h / M = b at *
    generalize g % M = r at *
    generalize h % M = s at *
    have cmp : (a < b ∧ g < h) ∨ (a = b) ∨ (b < a ∧ h < g) := by
      rcases Nat.lt_trichotomy a b with h1 | h1 | h1
      · left
        refine ⟨h1, ?_⟩
        have : M * (a + 1) ≤ M * b := Nat.mul_le_mul_left _ h1
        rw [Nat.mul_add, Nat.mul_one] at this
        omega
      · exact Or.inr (Or.inl h1)
      · right; right
        refine ⟨h1, ?_⟩
        have : M * (b + 1) ≤ M * a := Nat.mul_le_mul_left _ h1
        rw [Nat.mul_add, Nat.mul_one] at this
        omega
    refine ⟨?_, ?_⟩
    · rw [Op.bytesLess, ih1]
      rcases cmp with ⟨h1, h2⟩ | h1 | ⟨h1, h2⟩
      · simp [c1, h1, h2]
      · subst h1
        have : (g < h) = (r < s) := propext ⟨fun _ => by omega, fun _ => by omega⟩
        simp [this]
      · have n1 : ¬ a < b := by omega
        have n2 : ¬ a = b := by omega
        have n3 : ¬ g < h := by omega
        simp [c1, c2, n1, n2, n3]
    · rw [List.cons_beq_cons, ih2]
      rcases cmp with ⟨h1, h2⟩ | h1 | ⟨h1, h2⟩
      · have n2 : ¬ a = b := by omega
        have n3 : ¬ g = h := by omega
        simp [c2, n2, n3]
      · subst h1
        have : (g = h) = (r = s) := propext ⟨fun _ => by omega, fun _ => by omega⟩
        simp [this]
      · have n2 : ¬ a = b := by omega
        have n3 : ¬ g = h := by omega
        simp [c2, n2, n3]
end Go.Proofs.YtidlgdpjcognpaaDoor.X
