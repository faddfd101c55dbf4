/- What comes in as data, read as the printed texts read it. -/
import Derived.Test.YtidlgdpjcognpaaDoorXT
import Derived.Deep.Matrix
import Derived.ProofKit
import Derived.SizedLaws
namespace Go.Proofs.YtidlgdpjcognpaaDoor.X
open Go.RowKit Go.Proofs.YtidlgdpjcognpaaDoorW.PrintWords
set_option linter.unusedVariables false

/-- A slice of slices of whole numbers that came in. -/
theorem open_rows {H : Type} {enc : TypeId × Value → H} {P : Program} {W : World} {t e q : TypeId} {k : IntKind} {a0 : Option Addr} {len0 cap0 : Nat} {d : DataW H} {ps : List MemPlace} (ht : P.underlying t = some (.slice e)) (he : P.underlying e = some (.slice q)) (hq : P.underlying q = some (.int k))
    (ce : P.cellsOf e = 1) (cq : P.cellsOf q = 1) (h : DataW.Trod enc P W 0 (fun _ => true) true t (.slice a0 len0 cap0) d ps) :
    ∃ (xs : List (List Int)), xs.length = len0 ∧ len0 ≤ cap0 ∧ len0 ≤ 9223372036854775807 ∧ (Kd.slice q (Kd.int k)).C W a0 xs.length xs ∧ ∀ x ∈ xs, x.length ≤ 9223372036854775807 ∧ ∀ n ∈ x, (Lit.int k n).wf = true := by
  obtain ⟨fuel, hf⟩ := h
  rcases Deep.open_int_rows ht he hq ce cq hf with ⟨hcs, _⟩ | ⟨a, len, cap, A, L, C, Z, hcs, _, hl, hm, _, hrow⟩
  · simp only [Value.cells, List.cons.injEq, Value.slice.injEq, and_true] at hcs
    obtain ⟨rfl, rfl, rfl⟩ := hcs
    exact ⟨[], rfl, Nat.le_refl _, by omega, Kd.C_nil _ _, by simp⟩
  · simp only [Value.cells, List.cons.injEq, Value.slice.injEq, and_true] at hcs
    obtain ⟨rfl, rfl, rfl⟩ := hcs
    have hm' : len0 ≤ 9223372036854775807 := by simp only [maxLen] at hm; omega
    have hll : ∀ r, r < len0 → ((Z r).take (L r)).length = L r := fun r hr => by
      obtain ⟨_, h1, _, h2, _⟩ := hrow r (by omega)
      rw [List.length_take]; omega
    refine ⟨(List.range len0).map fun r => (Z r).take (L r), by simp, hl, hm', ?_, ?_⟩
    · refine ⟨rfl, by simpa using hm', fun hn => ⟨a, rfl, fun j p hj => ?_⟩⟩
      have hjl : j < len0 := by have := (List.getElem?_eq_some_iff.1 hj).1; simpa using this
      obtain rfl : (Z j).take (L j) = p := by
        rw [List.getElem?_map, List.getElem?_range hjl] at hj
        simpa using hj
      obtain ⟨h0, h1, h2, h3, h4, h5, h6⟩ := hrow j (by omega)
      refine ⟨[.slice (A j) (L j) (C j)], rfl, ⟨A j, C j, by rw [hll j hjl], by rw [hll j hjl]; exact h1, ?_⟩, fun i u hu => ?_⟩
      · refine Kd.C_of_reads (d := (0 : Int)) (h1 := fun _ => rfl) ⟨rfl, by rw [hll j hjl]; simp only [maxLen] at h2; omega, fun hp => ?_⟩
        rw [hll j hjl] at hp
        cases hA : A j with
        | none => have := h5 hA; omega
        | some a' =>
          refine ⟨a', rfl, fun c hc => ?_⟩
          rw [hll j hjl] at hc
          rw [(h6 a' hA).2 c (by omega)]
          congr 2
          simp only [List.getD_eq_getElem?_getD, List.getElem?_take]
          rw [if_pos hc]
      · cases i with
        | succ i => simp at hu
        | zero =>
          obtain rfl : Value.slice (A j) (L j) (C j) = u := by simpa using hu
          show W.cell? (a.add (j * 1 + 0)) = _
          rw [Nat.mul_one, Nat.add_zero]; exact h0
    · intro x hx
      obtain ⟨r, hr, rfl⟩ := List.mem_map.1 hx
      have hr' : r < len0 := by simpa using hr
      obtain ⟨h0, h1, h2, h3, h4, h5, h6⟩ := hrow r (by omega)
      refine ⟨by rw [hll r hr']; simp only [maxLen] at h2; omega, fun n hn => h4 n (List.mem_of_mem_take hn)⟩
end Go.Proofs.YtidlgdpjcognpaaDoor.X
