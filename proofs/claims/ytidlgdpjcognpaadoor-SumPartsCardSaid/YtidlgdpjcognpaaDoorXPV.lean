/- SumParts, as the printed functions tell it: true of every input. -/
import Derived.Test.YtidlgdpjcognpaaDoorXPU
import Derived.Test.YtidlgdpjcognpaaDoorXO
import Derived.OpenShut
import Derived.Test.YtidlgdpjcognpaaDoorPf4
namespace Go.Proofs.YtidlgdpjcognpaaDoor.X
open Go.RowKit Go.Proofs.YtidlgdpjcognpaaDoorW.PrintWords Go.Proofs.YtidlgdpjcognpaaDoor.P
set_option linter.unusedVariables false
set_option linter.unusedSimpArgs false

theorem bytesOf_nums (xs : List Int) (hx : ∀ x ∈ xs, 0 ≤ x ∧ x ≤ 255) : bytesOf (strOfNums xs) = xs := by
  unfold bytesOf strOfNums
  simp only [List.map_map]
  conv => rhs; rw [← List.map_id xs]
  apply List.map_congr_left
  intro x hxm
  have := hx x hxm
  simp
  omega

theorem parts_l1 (x0 : List (List Int)) (A : List Int) (hL : x0.length ≤ 9223372036854775807) (i : Nat) (hi : i < x0.length) (hx : x0[i].length ≤ 60) : ∀ (d : Nat) (j : Nat) (h : Int), x0[i].length - j = d → j ≤ x0[i].length →
    Ev (fun k => hogsheadlaw6_SumParts.l0 k x0 A (sumL (x0[i].drop j) h) ((i + 1 : Nat) : Int)) true → Ev (fun k => hogsheadlaw6_SumParts.l1 k x0 A h i j) true := by
  intro d
  induction d with
  | zero =>
    intro j h hd hj ⟨K, hK⟩
    refine ⟨K + 1, fun k hk => ?_⟩
    obtain ⟨k, rfl⟩ : ∃ m, k = m + 1 := ⟨k - 1, by omega⟩
    have hK := hK k (by omega)
    rw [List.drop_eq_nil_of_le (by omega)] at hK
    simp only [hogsheadlaw6_SumParts.l1]
    rw [if_pos (by omega), if_pos (by omega), rdL_getElem x0 i hi, if_neg (by omega), wrap_up (n := x0.length) (by omega) (by omega) hL]
    exact hK
  | succ d ih =>
    intro j h hd hj ⟨K, hK⟩
    have hlt : j < x0[i].length := by omega
    obtain ⟨K2, hK2⟩ := ih (j + 1) (nextN h x0[i][j]) (by omega) (by omega) ⟨K, fun k hk => by
      have := hK k hk
      rw [List.drop_eq_getElem_cons hlt] at this
      exact this⟩
    refine ⟨K2 + 1, fun k hk => ?_⟩
    obtain ⟨k, rfl⟩ : ∃ m, k = m + 1 := ⟨k - 1, by omega⟩
    have hK2 := hK2 k (by omega)
    simp only [hogsheadlaw6_SumParts.l1]
    rw [if_pos (by omega), if_pos (by omega), rdL_getElem x0 i hi, if_pos (by omega), if_pos (by omega), next_eq]
    simp only [Option.bind_some]
    rw [wrap_up (n := x0[i].length) (by omega) (by omega) (by omega), rd_getElem _ j hlt]
    exact hK2

theorem flat_len (x0 : List (List Int)) (h : ∀ x ∈ x0, x.length ≤ 60) : x0.flatten.length ≤ 60 * x0.length := by
  induction x0 with
  | nil => simp
  | cons x xs ih =>
    have h1 := h x (by simp)
    have h2 := ih (fun y hy => h y (by simp [hy]))
    simp only [List.flatten_cons, List.length_append, List.length_cons]
    omega

theorem parts_l0 (x0 : List (List Int)) (hL : x0.length ≤ 10) (hl : ∀ x ∈ x0, ∀ y ∈ x, 0 ≤ y ∧ y ≤ 255) (hm : ∀ x ∈ x0, x.length ≤ 9223372036854775807) : ∀ (d : Nat) (i : Nat), x0.length - i = d → i ≤ x0.length → (∀ x ∈ x0.take i, x.length ≤ 60) →
    Ev (fun k => hogsheadlaw6_SumParts.l0 k x0 (x0.take i).flatten (sumL (x0.take i).flatten) i) true := by
  obtain ⟨K1, k1⟩ := awake6_eq
  intro d
  induction d with
  | zero =>
    intro i hd hi h60
    obtain rfl : i = x0.length := by omega
    rw [List.take_length] at h60 ⊢
    have hlen := flat_len x0 h60
    have hbytes : ∀ y ∈ x0.flatten, 0 ≤ y ∧ y ≤ 255 := by
      intro y hy
      obtain ⟨x, hx, hyx⟩ := List.mem_flatten.1 hy
      exact hl x hx y hyx
    have hr := sumL_range' x0.flatten
    obtain ⟨K2, k2⟩ := of_eq x0 (by omega) hm
    obtain ⟨K3, k3⟩ := one_eq x0.flatten (by omega)
    obtain ⟨K4, k4⟩ := digest_eq (strOfNums x0.flatten) (by rw [strOfNums_size]; omega)
    refine ⟨K1 + K2 + K3 + K4 + 1, fun k hk => ?_⟩
    obtain ⟨k, rfl⟩ : ∃ m, k = m + 1 := ⟨k - 1, by omega⟩
    have k1 := k1 k (by omega)
    have k2 := k2 k (by omega)
    have k3 := k3 k (by omega)
    have k4 := k4 k (by omega)
    simp only at k1 k2 k3 k4
    rw [bytesOf_nums _ hbytes] at k4
    simp only [hogsheadlaw6_SumParts.l0]
    rw [if_neg (by omega), k2, k3, k4, hex_eq _ hr.1 hr.2, k1, sumP_flat]
    simp only [Option.bind_some]
    simp only [if_true]
  | succ d ih =>
    intro i hd hi h60
    have hlt : i < x0.length := by omega
    by_cases hlong : (x0[i].length : Int) > 60
    · refine ⟨K1 + 1, fun k hk => ?_⟩
      obtain ⟨k, rfl⟩ : ∃ m, k = m + 1 := ⟨k - 1, by omega⟩
      have k1 := k1 k (by omega)
      simp only at k1
      simp only [hogsheadlaw6_SumParts.l0]
      rw [if_pos (by omega), if_pos (by omega), rdL_getElem x0 i hlt, if_pos hlong, k1]
      rfl
    · have e : x0.take (i + 1) = x0.take i ++ [x0[i]] := List.take_succ_eq_append_getElem hlt
      have h61 : ∀ x ∈ x0.take (i + 1), x.length ≤ 60 := by
        intro x hx
        rw [e] at hx
        rcases List.mem_append.1 hx with h | h
        · exact h60 x h
        · obtain rfl := List.mem_singleton.1 h
          omega
      have hi1 := ih (i + 1) (by omega) (by omega) h61
      have ef : (x0.take (i + 1)).flatten = (x0.take i).flatten ++ x0[i] := by rw [e]; simp only [List.flatten_append, List.flatten_cons, List.flatten_nil, List.append_nil]
      rw [ef, sumL_append] at hi1
      have hl1 := parts_l1 x0 ((x0.take i).flatten ++ x0[i]) (by omega) i hlt (by omega) x0[i].length 0 (sumL (x0.take i).flatten) (by omega) (by omega) (by rw [List.drop_zero]; exact hi1)
      obtain ⟨K2, k2⟩ := hl1
      have hlen := flat_len _ h60
      have htl : (x0.take i).length ≤ 10 := by rw [List.length_take]; omega
      refine ⟨K2 + 1, fun k hk => ?_⟩
      obtain ⟨k, rfl⟩ : ∃ m, k = m + 1 := ⟨k - 1, by omega⟩
      have k2 := k2 k (by omega)
      simp only [hogsheadlaw6_SumParts.l0]
      rw [if_pos (by omega), if_pos (by omega), rdL_getElem x0 i hlt, if_neg hlong, if_pos (by omega)]
      exact k2

theorem sumParts_pure (l0 : List (List Int)) (hl : ∀ x ∈ l0, ∀ y ∈ x, 0 ≤ y ∧ y ≤ 255) (hm : ∀ x ∈ l0, x.length ≤ 9223372036854775807) : Ev (fun k => hogsheadlaw6_SumParts.f k l0) true := by
  obtain ⟨K1, k1⟩ := awake6_eq
  by_cases hlong : (l0.length : Int) > 10
  · refine ⟨K1, fun k hk => ?_⟩
    have k1 := k1 k hk
    simp only at k1
    show hogsheadlaw6_SumParts.f k l0 = _
    unfold hogsheadlaw6_SumParts.f
    rw [if_pos hlong, k1]
    rfl
  · obtain ⟨K2, k2⟩ := parts_l0 l0 (by omega) hl hm l0.length 0 (by omega) (by omega) (by simp)
    obtain ⟨K3, k3⟩ := of_eq [] (by simp) (by simp)
    refine ⟨K2 + K3, fun k hk => ?_⟩
    have k2 := k2 k (by omega)
    have k3 := k3 k (by omega)
    simp only at k2 k3
    show hogsheadlaw6_SumParts.f k l0 = _
    unfold hogsheadlaw6_SumParts.f
    rw [if_neg hlong, k3]
    simp only [Option.bind_some]
    exact k2

theorem sumParts_calls (A0 : Option Addr) (c0 : Nat) (l0 : List (List Int)) (w : World) (hT : Aside0 (Tabs w)) (hr0 : (Kd.slice 5 (Kd.int .u8)).C w A0 l0.length l0) (hc0 : l0.length ≤ c0) (hl : ∀ x ∈ l0, x.length ≤ 9223372036854775807 ∧ ∀ n ∈ x, (Lit.int .u8 n).wf = true) :
    Calls Tryd.prog 4 #[.slice A0 l0.length c0] w fun e w' => e = .returned (.bool true) ∧ Below w.heap.size w w' := by
  obtain ⟨K, hK⟩ := sumParts_pure l0 (fun x hx y hy => by have := bounds_u8 ((hl x hx).2 y hy); omega) (fun x hx => (hl x hx).1)
  exact hogsheadlaw6_SumParts.calls K A0 c0 l0 true w hT hr0 hc0 (hK K (Nat.le_refl _))
end Go.Proofs.YtidlgdpjcognpaaDoor.X
