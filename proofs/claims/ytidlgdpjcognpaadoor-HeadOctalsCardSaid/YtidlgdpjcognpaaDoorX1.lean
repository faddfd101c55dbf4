/- Contracts of the library's functions that this seat's texts call, in the printed texts' form: each over a plain Lean function. -/
import Derived.Test.YtidlgdpjcognpaaDoorXT
import Derived.Test.YtidlgdpjcognpaaDoorXD
import Derived.Test.YtidlgdpjcognpaaDoorShelf
import Derived.Outline
import Derived.WalkLawsBesides
import Derived.WalkSpells
import Derived.LoopTactic
import Derived.Laws.Bits64b
import Derived.Laws.BytesArg
import Derived.Lib.Hide
import Derived.Laws.NewBlocks
import Derived.Lib.AppendIntMem
namespace Go.Proofs.YtidlgdpjcognpaaDoor.X
open Go.RowKit Go.Proofs.YtidlgdpjcognpaaDoorW.PrintWords
set_option linter.unusedVariables false
set_option linter.unusedSimpArgs false

theorem and15 (v : Nat) (hv : v < 18446744073709551616) : bits .and .u64 (v : Int) 15 = ((v % 16 : Nat) : Int) := by
  have h := bits_and_u64_nat v 15 hv (by omega)
  have e : v &&& 15 = v % 16 := Nat.and_two_pow_sub_one_eq_mod v 4
  rw [e] at h
  exact h
theorem and7 (v : Nat) (hv : v < 18446744073709551616) : bits .and .u64 (v : Int) 7 = ((v % 8 : Nat) : Int) := by
  have h := bits_and_u64_nat v 7 hv (by omega)
  have e : v &&& 7 = v % 8 := Nat.and_two_pow_sub_one_eq_mod v 3
  rw [e] at h
  exact h
theorem e16 : IntKind.u64.wrap (bits BinOp.and IntKind.u64 16 (IntKind.u64.wrap (-16)) * 285870213051353865) / 288230376151711744 = 15 := by decide +kernel
theorem e8 : IntKind.u64.wrap (bits BinOp.and IntKind.u64 8 (IntKind.u64.wrap (-8)) * 285870213051353865) / 288230376151711744 = 7 := by decide +kernel

set_option maxHeartbeats 800000 in
set_option maxRecDepth 100000 in
theorem tz16 (w : World) (hc : w.cell? ⟨3, 15, none⟩ = some (.int .u8 4)) : Calls Tryd.prog 72 #[.int .u64 16] w fun e w' => e = .returned (.int .i64 4) ∧ w = w' := by
  have h := e16
  go_enter Tryd.func72, Tryd.ntmps72
  go_wp2
  go_ret
  exact ⟨rfl, rfl⟩
set_option maxHeartbeats 1600000 in
set_option maxRecDepth 100000 in
theorem fb16 (u : Nat) (hu : u < 18446744073709551616) (w : World) (hT : Tabs w) :
    Calls Tryd.prog 60 #[.slice none 0 0, .int .u64 u, .int .i64 16, .bool false, .bool false] w fun e w' => e = .returned (.tuple #[.slice none 0 0, .string ⟨(digitsOf 16 u).toArray⟩]) ∧ ∃ C, w' = w.alloc (.cells C 92) := by
  have hc := hT.t16
  have hwg : 3 < w.heap.size := World.block_lt_of_cell? w _ hc
  clear hT
  go_enter Tryd.func60, Tryd.ntmps60
  have hp : ∀ W : World, Calls Tryd.prog 71 #[.int .i64 16] W fun e w' => e = .returned (.bool true) ∧ W = w' := by
    intro W
    go_enter Tryd.func71, Tryd.ntmps71
    go_wp2
    go_ret
    exact ⟨by simp; decide, rfl⟩
  have htz : ∀ W : World, W.cell? ⟨3, 15, none⟩ = some (.int .u8 4) → Calls Tryd.prog 72 #[.int .u64 16] W fun e w' => e = .returned (.int .i64 4) ∧ W = w' := fun W h => tz16 W h
  have hcA : ∀ o, (w.alloc o).cell? ⟨3, 15, none⟩ = some (.int .u8 4) := fun o => (((Below.refl w.heap.size w).alloc (Nat.le_refl _) o).cell (p := ⟨3, 15, none⟩) hwg).trans hc
  clear hc
  go_wp2_with (first | (go_at_call 71; refine (hp _).mono ?_; rintro e w' ⟨rfl, rfl⟩) | (go_at_call 72; refine (htz _ (hcA _)).mono ?_; rintro e w' ⟨rfl, rfl⟩))
  clear hp htz hcA
  go_loopw [1, 13] (fun vu vi wr => ∃ (v i : Nat) (C : Array Value) (ds : List UInt8), vu = .int .u64 v ∧ vi = .int .i64 i ∧ Hid (wr = w.alloc (.cells C 92)) ∧ Hid (Box C ds) ∧ i ≤ 65 ∧ Hid (i + ds.length = 65) ∧ v < 18446744073709551616 ∧ Hid (ds.length ≤ 64) ∧ Hid (v * 2 ^ ds.length ≤ u) ∧ Hid (digitsOf 16 u = digitsOf 16 v ++ ds)) (fun vu _ _ => (intOf vu).toNat)
  case atStart =>
    refine ⟨u, 65, _, [], rfl, rfl, rfl, ?_, by omega, rfl, hu, by show [].length ≤ 64; simp, ?_, ?_⟩
    · refine ⟨rfl, by simp, fun j hj => ⟨0, ?_⟩, fun j hj => absurd hj (by simp)⟩
      have e : Tryd.zeroCells92 = Array.replicate 65 (.int .u8 0) := rfl
      rw [e]; simp [hj]
    · show u * 2 ^ 0 ≤ u; omega
    · show _ = _ ++ []; simp
  case round =>
    obtain ⟨v, i, C, ds, rfl, rfl, hW, hB, hi, hl, hv, hn, hm, hd⟩ := hrel
    obtain rfl := hW
    have h15 := and15 v hv
    by_cases hlt : 16 ≤ v
    · have hr := room_ u v ds.length hu hm.out (by omega)
      have hi1 : 1 ≤ i := by have := hl.out; omega
      obtain ⟨z, hz⟩ := hB.out.old (i - 1) (by omega)
      have hcell : (w.alloc (.cells C 92)).cell? ⟨w.heap.size, i - 1, none⟩ = some (.int .u8 z) := by simp [World.cell?, World.alloc, -World.alloc_eq, hz]
      clear hz
      go_wp2
      have e1 : i - 1 = 64 - ds.length := by have := hl.out; omega
      have e2 : (↑v : Int) / 16 = ((v / 16 : Nat) : Int) := by omega
      refine ⟨⟨v / 16, i - 1, _, dch (v % 16) :: ds, by rw [e2], by congr 1; omega, rfl, ?_, by omega, ?_, by omega, by show (dch (v % 16) :: ds).length ≤ 64; simp only [List.length_cons]; omega, ?_, ?_⟩, by simp [intOf]; omega⟩
      · have hk : v % 16 < digs.size := by have : digs.size = 36 := rfl; omega
        have hd2 := digs_at (v % 16) (by omega) hk
        rw [e1, ← hd2]
        exact box_put hB.out (by omega) (digs[v % 16])
      · show i - 1 + (ds.length + 1) = 65
        have := hl.out; omega
      · show v / 16 * 2 ^ (ds.length + 1) ≤ u
        have := hm.out
        have h2 : v / 16 * 2 ^ (ds.length + 1) = (v / 16 * 2) * 2 ^ ds.length := by rw [Nat.pow_succ, Nat.mul_comm (2 ^ ds.length) 2, Nat.mul_assoc]
        rw [h2]
        exact Nat.le_trans (Nat.mul_le_mul_right _ (by omega)) this
      · show digitsOf 16 u = _
        rw [hd.out, digitsOf_ge hlt (by omega), List.append_assoc]; rfl
    · have hr := hn.out
      have hi1 : 1 ≤ i := by have := hl.out; omega
      obtain ⟨z, hz⟩ := hB.out.old (i - 1) (by omega)
      have hcell : (w.alloc (.cells C 92)).cell? ⟨w.heap.size, i - 1, none⟩ = some (.int .u8 z) := by simp [World.cell?, World.alloc, -World.alloc_eq, hz]
      clear hz
      have hsl : ∀ W, (Instr.sliceAt 92 (.pointer (some ⟨w.heap.size, 0, none⟩)) (some (.int .i64 (↑i - 1))) none none).run Tryd.prog W = .ok (.slice (some ⟨w.heap.size, i - 1, none⟩) (ds.length + 1) (ds.length + 1)) W := by
        intro W
        have hal : Tryd.prog.arrayLen 92 = 65 := by simp [Program.arrayLen, Tryd.underlying92]
        rw [run_sliceAt_array_l W 92 ⟨w.heap.size, 0, none⟩ (by simp [Program.arrayLen, Program.elem, Tryd.underlying92]) .i64 (↑i - 1) (by omega) (by rw [hal]; omega), hal]
        have hel : Tryd.prog.elem 92 = 5 := by simp [Program.elem, Tryd.underlying92]
        have e2 : ((i : Int) - 1).toNat = i - 1 := by omega
        have hne : ¬ (65 = i - 1) := by omega
        simp only [hel, e2, slicedAt, if_neg hne]
        have hl := hl.out
        have ha : (⟨w.heap.size, 0, none⟩ : Addr).add (i - 1) = ⟨w.heap.size, i - 1, none⟩ := by unfold Addr.add; split <;> simp_all
        have h3 : 65 - (i - 1) = ds.length + 1 := by omega
        go_simp
      have e1 : i - 1 = 64 - ds.length := by have := hl.out; omega
      have hb2 := box_put hB.out (by omega) (dch v)
      have hk : v < digs.size := by have : digs.size = 36 := rfl; omega
      have hdv : digs[v] = dch v := digs_at v (by omega) hk
      rw [← hdv, ← e1] at hb2
      have hcv := run_convert_bytes_back (P := Tryd.prog) (w.alloc (.cells (C.setIfInBounds (i - 1) (.int .u8 (digs[v].toNat : Int))) 92)) 22 9 5 ⟨w.heap.size, i - 1, none⟩ (ds.length + 1) (digs[v] :: ds) Tryd.underlying22 Tryd.underlying5 Tryd.underlying9 (fun j hj => by
        have h1 := hb2.new j hj
        have ha : (⟨w.heap.size, i - 1, none⟩ : Addr).add j = ⟨w.heap.size, i - 1 + j, none⟩ := by unfold Addr.add; split <;> simp_all
        have h2 : 65 - (digs[v] :: ds).length + j = i - 1 + j := by simp only [List.length_cons]; have := hl.out; omega
        rw [ha]
        rw [h2] at h1
        simp [World.cell?, World.alloc, -World.alloc_eq, h1])
      have HD := Lib.hid hdv
      have HB2 := Lib.hid hb2
      clear hdv hb2
      simp only [List.length_cons] at hcv
      clear e1
      go_wp2
      go_ret2
      refine ⟨?_, _, rfl⟩
      rw [hd.out, digitsOf_lt (by omega)]
      have := HD.out
      simp [← this]
set_option maxHeartbeats 1600000 in
theorem fu16 (u : Nat) (hu : u < 18446744073709551616) (w : World) (hT : Tabs w) : Calls Tryd.prog 47 #[.int .u64 u, .int .i64 16] w fun e w' => e = .returned (.string ⟨(digitsOf 16 u).toArray⟩) ∧ Below w.heap.size w w' := by
  have HT := Lib.hid hT
  clear hT
  go_enter Tryd.func47, Tryd.ntmps47
  go_wp2_with (go_at_call 60; refine (fb16 u hu _ HT.out).mono ?_; rintro e w' ⟨rfl, C, rfl⟩)
  go_ret
  exact ⟨rfl, (Below.refl _ _).alloc (Nat.le_refl _) _⟩
set_option maxHeartbeats 1600000 in
theorem fi16 (u : Nat) (hu : u < 9223372036854775808) (w : World) (hT : Tabs w) : Calls Tryd.prog 54 #[.int .i64 u, .int .i64 16] w fun e w' => e = .returned (.string ⟨(digitsOf 16 u).toArray⟩) ∧ Below w.heap.size w w' := by
  have HT := Lib.hid hT
  clear hT
  go_enter Tryd.func54, Tryd.ntmps54
  go_wp2_with (go_at_call 60; refine (fb16 u (by omega) _ HT.out).mono ?_; rintro e w' ⟨rfl, C, rfl⟩)
  go_ret
  exact ⟨rfl, (Below.refl _ _).alloc (Nat.le_refl _) _⟩

/-! ### strconv.FormatUint at base 16 -/
def strconv_FormatUint.f (a0 a1 : Int) : Option ByteArray := if 0 ≤ a0 ∧ a0 < 18446744073709551616 ∧ a1 = 16 then some ⟨(digitsOf 16 a0.toNat).toArray⟩ else none
set_option maxHeartbeats 1600000 in
theorem strconv_FormatUint.calls (a0 a1 : Int) (r : ByteArray) (w : World) (hT : Aside0 (Tabs w)) (h : strconv_FormatUint.f a0 a1 = some r) :
    Calls Tryd.prog 34 #[.int .u64 a0, .int .i64 a1] w fun e w' => e = .returned (.string r) ∧ Below w.heap.size w w' := by
  unfold strconv_FormatUint.f at h
  split at h
  · rename_i hc
    obtain ⟨h0, h1, rfl⟩ := hc
    obtain ⟨n, rfl⟩ := Int.eq_ofNat_of_zero_le h0
    cases h
    simp only [Int.toNat_natCast]
    have hn : n < 18446744073709551616 := by omega
    clear h0 h1
    go_enter Tryd.func34, Tryd.ntmps34
    go_wp2_with (go_at_call 47; refine (fu16 n hn _ hT.out).mono ?_; rintro e w' ⟨rfl, hb⟩)
    go_ret
    exact ⟨rfl, hb⟩
  · cases h

set_option maxHeartbeats 800000 in
set_option maxRecDepth 100000 in
theorem tz8 (w : World) (hc : w.cell? ⟨3, 7, none⟩ = some (.int .u8 3)) : Calls Tryd.prog 72 #[.int .u64 8] w fun e w' => e = .returned (.int .i64 3) ∧ w = w' := by
  have h := e8
  go_enter Tryd.func72, Tryd.ntmps72
  go_wp2
  go_ret
  exact ⟨rfl, rfl⟩
set_option maxHeartbeats 1600000 in
set_option maxRecDepth 100000 in
theorem fb8 (u : Nat) (hu : u < 18446744073709551616) (w : World) (hT : Tabs w) :
    Calls Tryd.prog 60 #[.slice none 0 0, .int .u64 u, .int .i64 8, .bool false, .bool false] w fun e w' => e = .returned (.tuple #[.slice none 0 0, .string ⟨(digitsOf 8 u).toArray⟩]) ∧ ∃ C, w' = w.alloc (.cells C 92) := by
  have hc := hT.t8
  have hwg : 3 < w.heap.size := World.block_lt_of_cell? w _ hc
  clear hT
  go_enter Tryd.func60, Tryd.ntmps60
  have hp : ∀ W : World, Calls Tryd.prog 71 #[.int .i64 8] W fun e w' => e = .returned (.bool true) ∧ W = w' := by
    intro W
    go_enter Tryd.func71, Tryd.ntmps71
    go_wp2
    go_ret
    exact ⟨by simp; decide, rfl⟩
  have htz : ∀ W : World, W.cell? ⟨3, 7, none⟩ = some (.int .u8 3) → Calls Tryd.prog 72 #[.int .u64 8] W fun e w' => e = .returned (.int .i64 3) ∧ W = w' := fun W h => tz8 W h
  have hcA : ∀ o, (w.alloc o).cell? ⟨3, 7, none⟩ = some (.int .u8 3) := fun o => (((Below.refl w.heap.size w).alloc (Nat.le_refl _) o).cell (p := ⟨3, 7, none⟩) hwg).trans hc
  clear hc
  go_wp2_with (first | (go_at_call 71; refine (hp _).mono ?_; rintro e w' ⟨rfl, rfl⟩) | (go_at_call 72; refine (htz _ (hcA _)).mono ?_; rintro e w' ⟨rfl, rfl⟩))
  clear hp htz hcA
  go_loopw [1, 13] (fun vu vi wr => ∃ (v i : Nat) (C : Array Value) (ds : List UInt8), vu = .int .u64 v ∧ vi = .int .i64 i ∧ Hid (wr = w.alloc (.cells C 92)) ∧ Hid (Box C ds) ∧ i ≤ 65 ∧ Hid (i + ds.length = 65) ∧ v < 18446744073709551616 ∧ Hid (ds.length ≤ 64) ∧ Hid (v * 2 ^ ds.length ≤ u) ∧ Hid (digitsOf 8 u = digitsOf 8 v ++ ds)) (fun vu _ _ => (intOf vu).toNat)
  case atStart =>
    refine ⟨u, 65, _, [], rfl, rfl, rfl, ?_, by omega, rfl, hu, by show [].length ≤ 64; simp, ?_, ?_⟩
    · refine ⟨rfl, by simp, fun j hj => ⟨0, ?_⟩, fun j hj => absurd hj (by simp)⟩
      have e : Tryd.zeroCells92 = Array.replicate 65 (.int .u8 0) := rfl
      rw [e]; simp [hj]
    · show u * 2 ^ 0 ≤ u; omega
    · show _ = _ ++ []; simp
  case round =>
    obtain ⟨v, i, C, ds, rfl, rfl, hW, hB, hi, hl, hv, hn, hm, hd⟩ := hrel
    obtain rfl := hW
    have h15 := and7 v hv
    by_cases hlt : 8 ≤ v
    · have hr := room_ u v ds.length hu hm.out (by omega)
      have hi1 : 1 ≤ i := by have := hl.out; omega
      obtain ⟨z, hz⟩ := hB.out.old (i - 1) (by omega)
      have hcell : (w.alloc (.cells C 92)).cell? ⟨w.heap.size, i - 1, none⟩ = some (.int .u8 z) := by simp [World.cell?, World.alloc, -World.alloc_eq, hz]
      clear hz
      go_wp2
      have e1 : i - 1 = 64 - ds.length := by have := hl.out; omega
      have e2 : (↑v : Int) / 8 = ((v / 8 : Nat) : Int) := by omega
      refine ⟨⟨v / 8, i - 1, _, dch (v % 8) :: ds, by rw [e2], by congr 1; omega, rfl, ?_, by omega, ?_, by omega, by show (dch (v % 8) :: ds).length ≤ 64; simp only [List.length_cons]; omega, ?_, ?_⟩, by simp [intOf]; omega⟩
      · have hk : v % 8 < digs.size := by have : digs.size = 36 := rfl; omega
        have hd2 := digs_at (v % 8) (by omega) hk
        rw [e1, ← hd2]
        exact box_put hB.out (by omega) (digs[v % 8])
      · show i - 1 + (ds.length + 1) = 65
        have := hl.out; omega
      · show v / 8 * 2 ^ (ds.length + 1) ≤ u
        have := hm.out
        have h2 : v / 8 * 2 ^ (ds.length + 1) = (v / 8 * 2) * 2 ^ ds.length := by rw [Nat.pow_succ, Nat.mul_comm (2 ^ ds.length) 2, Nat.mul_assoc]
        rw [h2]
        exact Nat.le_trans (Nat.mul_le_mul_right _ (by omega)) this
      · show digitsOf 8 u = _
        rw [hd.out, digitsOf_ge hlt (by omega), List.append_assoc]; rfl
    · have hr := hn.out
      have hi1 : 1 ≤ i := by have := hl.out; omega
      obtain ⟨z, hz⟩ := hB.out.old (i - 1) (by omega)
      have hcell : (w.alloc (.cells C 92)).cell? ⟨w.heap.size, i - 1, none⟩ = some (.int .u8 z) := by simp [World.cell?, World.alloc, -World.alloc_eq, hz]
      clear hz
      have hsl : ∀ W, (Instr.sliceAt 92 (.pointer (some ⟨w.heap.size, 0, none⟩)) (some (.int .i64 (↑i - 1))) none none).run Tryd.prog W = .ok (.slice (some ⟨w.heap.size, i - 1, none⟩) (ds.length + 1) (ds.length + 1)) W := by
        intro W
        have hal : Tryd.prog.arrayLen 92 = 65 := by simp [Program.arrayLen, Tryd.underlying92]
        rw [run_sliceAt_array_l W 92 ⟨w.heap.size, 0, none⟩ (by simp [Program.arrayLen, Program.elem, Tryd.underlying92]) .i64 (↑i - 1) (by omega) (by rw [hal]; omega), hal]
        have hel : Tryd.prog.elem 92 = 5 := by simp [Program.elem, Tryd.underlying92]
        have e2 : ((i : Int) - 1).toNat = i - 1 := by omega
        have hne : ¬ (65 = i - 1) := by omega
        simp only [hel, e2, slicedAt, if_neg hne]
        have hl := hl.out
        have ha : (⟨w.heap.size, 0, none⟩ : Addr).add (i - 1) = ⟨w.heap.size, i - 1, none⟩ := by unfold Addr.add; split <;> simp_all
        have h3 : 65 - (i - 1) = ds.length + 1 := by omega
        go_simp
      have e1 : i - 1 = 64 - ds.length := by have := hl.out; omega
      have hb2 := box_put hB.out (by omega) (dch v)
      have hk : v < digs.size := by have : digs.size = 36 := rfl; omega
      have hdv : digs[v] = dch v := digs_at v (by omega) hk
      rw [← hdv, ← e1] at hb2
      have hcv := run_convert_bytes_back (P := Tryd.prog) (w.alloc (.cells (C.setIfInBounds (i - 1) (.int .u8 (digs[v].toNat : Int))) 92)) 22 9 5 ⟨w.heap.size, i - 1, none⟩ (ds.length + 1) (digs[v] :: ds) Tryd.underlying22 Tryd.underlying5 Tryd.underlying9 (fun j hj => by
        have h1 := hb2.new j hj
        have ha : (⟨w.heap.size, i - 1, none⟩ : Addr).add j = ⟨w.heap.size, i - 1 + j, none⟩ := by unfold Addr.add; split <;> simp_all
        have h2 : 65 - (digs[v] :: ds).length + j = i - 1 + j := by simp only [List.length_cons]; have := hl.out; omega
        rw [ha]
        rw [h2] at h1
        simp [World.cell?, World.alloc, -World.alloc_eq, h1])
      have HD := Lib.hid hdv
      have HB2 := Lib.hid hb2
      clear hdv hb2
      simp only [List.length_cons] at hcv
      clear e1
      go_wp2
      go_ret2
      refine ⟨?_, _, rfl⟩
      rw [hd.out, digitsOf_lt (by omega)]
      have := HD.out
      simp [← this]
set_option maxHeartbeats 1600000 in
theorem fu8 (u : Nat) (hu : u < 18446744073709551616) (w : World) (hT : Tabs w) : Calls Tryd.prog 47 #[.int .u64 u, .int .i64 8] w fun e w' => e = .returned (.string ⟨(digitsOf 8 u).toArray⟩) ∧ Below w.heap.size w w' := by
  have HT := Lib.hid hT
  clear hT
  go_enter Tryd.func47, Tryd.ntmps47
  go_wp2_with (go_at_call 60; refine (fb8 u hu _ HT.out).mono ?_; rintro e w' ⟨rfl, C, rfl⟩)
  go_ret
  exact ⟨rfl, (Below.refl _ _).alloc (Nat.le_refl _) _⟩
set_option maxHeartbeats 1600000 in
theorem fi8 (u : Nat) (hu : u < 9223372036854775808) (w : World) (hT : Tabs w) : Calls Tryd.prog 54 #[.int .i64 u, .int .i64 8] w fun e w' => e = .returned (.string ⟨(digitsOf 8 u).toArray⟩) ∧ Below w.heap.size w w' := by
  have HT := Lib.hid hT
  clear hT
  go_enter Tryd.func54, Tryd.ntmps54
  go_wp2_with (go_at_call 60; refine (fb8 u (by omega) _ HT.out).mono ?_; rintro e w' ⟨rfl, C, rfl⟩)
  go_ret
  exact ⟨rfl, (Below.refl _ _).alloc (Nat.le_refl _) _⟩

/-! ### strconv.FormatInt at bases 8 and 10 -/
def strconv_FormatInt.f (a0 a1 : Int) : Option ByteArray :=
  if 0 ≤ a0 ∧ a0 < 9223372036854775808 ∧ a1 = 8 then some ⟨(digitsOf 8 a0.toNat).toArray⟩
  else if -9223372036854775808 ≤ a0 ∧ a0 ≤ 9223372036854775807 ∧ a1 = 10 then some ⟨(Lib.itoa a0).toArray⟩ else none
set_option maxHeartbeats 1600000 in
theorem strconv_FormatInt.calls (a0 a1 : Int) (r : ByteArray) (w : World) (hT : Aside0 (Tabs w)) (h : strconv_FormatInt.f a0 a1 = some r) :
    Calls Tryd.prog 36 #[.int .i64 a0, .int .i64 a1] w fun e w' => e = .returned (.string r) ∧ Below w.heap.size w w' := by
  unfold strconv_FormatInt.f at h
  split at h
  · rename_i hc
    obtain ⟨h0, h1, rfl⟩ := hc
    obtain ⟨n, rfl⟩ := Int.eq_ofNat_of_zero_le h0
    cases h
    simp only [Int.toNat_natCast]
    have hn : n < 9223372036854775808 := by omega
    clear h0 h1
    go_enter Tryd.func36, Tryd.ntmps36
    go_wp2_with (go_at_call 54; refine (fi8 n hn _ hT.out).mono ?_; rintro e w' ⟨rfl, hb⟩)
    go_ret
    exact ⟨rfl, hb⟩
  · split at h
    · rename_i hc
      obtain ⟨h0, h1, rfl⟩ := hc
      cases h
      exact (Tryd.strconv_FormatInt_10 a0 h0 h1 w hT.out.pow).mono fun e w' ⟨he, k, os, hw⟩ => ⟨he, by rw [hw]; exact Lib.below_grow _ w (Nat.le_refl _) k os⟩
    · cases h

/-! ### strings.Repeat -/
def strings_Repeat.f (a0 : ByteArray) (a1 : Int) : Option ByteArray := if 0 ≤ a1 ∧ a1 ≤ 9223372036854775807 ∧ a0.size * a1.toNat ≤ 140737488355328 then some ⟨(Lib.repeatL a0.data.toList a1.toNat).toArray⟩ else none
theorem strings_Repeat.calls (a0 : ByteArray) (a1 : Int) (r : ByteArray) (w : World) (h : strings_Repeat.f a0 a1 = some r) :
    Calls Tryd.prog 35 #[.string a0, .int .i64 a1] w fun e w' => e = .returned (.string r) ∧ Below w.heap.size w w' := by
  unfold strings_Repeat.f at h
  split at h
  · rename_i hc
    obtain ⟨h0, h1, h2⟩ := hc
    obtain ⟨n, rfl⟩ := Int.eq_ofNat_of_zero_le h0
    cases h
    exact Tryd.strings_Repeat a0 n w (by omega) h2
  · cases h

/-! ### strings.IndexByte -/
def strings_IndexByte.f (a0 : ByteArray) (a1 : Int) : Option Int := some (Lib.indexByte a0.data.toList a1.toNat.toUInt8)
theorem strings_IndexByte.calls (a0 : ByteArray) (a1 : Int) (r : Int) (w : World) (h : strings_IndexByte.f a0 a1 = some r) :
    Calls Tryd.prog 66 #[.string a0, .int .u8 a1] w fun e w' => e = .returned (.int .i64 r) ∧ Drawn0 w w' := by
  cases h
  exact (Tryd.strings_IndexByte a0 a1 w).mono fun e w' ⟨he, hw⟩ => ⟨he, by rw [hw]; exact Drawn0.refl _⟩

/-! ### strings.Cut -/
def strings_Cut.f (a0 a1 : ByteArray) : Option (ByteArray × ByteArray × Bool) :=
  if a0.size < 4294967281 then some (⟨(Lib.cut a0.data.toList a1.data.toList).1.toArray⟩, ⟨(Lib.cut a0.data.toList a1.data.toList).2.1.toArray⟩, (Lib.cut a0.data.toList a1.data.toList).2.2) else none
theorem strings_Cut.calls (a0 a1 : ByteArray) (r1 r2 : ByteArray) (r3 : Bool) (w : World) (hT : Aside0 (Tabs w)) (h : strings_Cut.f a0 a1 = some (r1, r2, r3)) :
    Calls Tryd.prog 56 #[.string a0, .string a1] w fun e w' => e = .returned (.tuple #[.string r1, .string r2, .bool r3]) ∧ Drawn0 w w' := by
  unfold strings_Cut.f at h
  split at h
  · rename_i hc
    obtain ⟨m, hm⟩ := hT.out.maxl
    simp only [Option.some.injEq, Prod.mk.injEq] at h
    obtain ⟨rfl, rfl, rfl⟩ := h
    exact (Tryd.strings_Cut a0 a1 m w hc hm).mono fun e w' ⟨he, n, hw⟩ => ⟨he, ⟨n, hw⟩⟩
  · cases h
end Go.Proofs.YtidlgdpjcognpaaDoor.X
