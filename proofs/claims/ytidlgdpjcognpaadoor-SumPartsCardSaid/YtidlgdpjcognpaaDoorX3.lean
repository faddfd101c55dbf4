/- LendBytes and KeptBytes, walked by hand: a copy with spare room that is marked; is it as it was? -/
import Derived.Test.YtidlgdpjcognpaaDoorPf30
import Derived.Outline
import Derived.WalkLawsBesides
import Derived.WalkSpells
import Derived.LoopTactic
import Derived.Laws.NewBlocks
import Derived.Lib.Hide
namespace Go.Proofs.YtidlgdpjcognpaaDoor.X
open Go.RowKit Go.Proofs.YtidlgdpjcognpaaDoorW.PrintWords Go.Proofs.YtidlgdpjcognpaaDoor.P
set_option linter.unusedVariables false
set_option linter.unusedSimpArgs false
variable {α : Type}

/-- Block g holds xs, and m marks behind them; its room is cap. -/
def LentTo (e : Nat) (enc : α → Value) (mark : Value) (W : World) (g cap : Nat) (xs : List α) (m : Nat) : Prop :=
  ∃ cells : Array Value, W.heap[g]? = some (.cells cells e (0, 0)) ∧ cells.size = cap ∧ cap = xs.length + 3 ∧ (∀ (j : Nat) x, xs[j]? = some x → cells[j]? = some (enc x)) ∧ (∀ j, j < m → cells[xs.length + j]? = some mark)
theorem LentTo.below {e : Nat} {enc : α → Value} {mark : Value} {W W1 : World} {g cap m : Nat} {xs : List α} (h : LentTo e enc mark W g cap xs m) (hb : Below W.heap.size W W1) : LentTo e enc mark W1 g cap xs m := by
  obtain ⟨cells, hg, h1⟩ := h
  have hlt : g < W.heap.size := (Array.getElem?_eq_some_iff.1 hg).1
  exact ⟨cells, (hb.block g hlt).trans hg, h1⟩
theorem LentTo.reads {e : Nat} {k : IntKind} {mark : Value} {W : World} {g cap m : Nat} {xs : List Int} (h : LentTo e (Value.int k) mark W g cap xs m) (hm : xs.length ≤ 9223372036854775807) : (Kd.int k).C W (some ⟨g, 0, none⟩) xs.length xs := by
  obtain ⟨cells, hg, h1, h2, h3, h4⟩ := h
  refine Kd.C_of_reads (d := (0 : Int)) (h1 := fun _ => rfl) ⟨rfl, hm, fun _ => ⟨_, rfl, fun j hj => ?_⟩⟩
  rw [add_plain]
  have h5 := h3 j (xs.getD j 0) (by rw [List.getD_eq_getElem?_getD, List.getElem?_eq_getElem hj]; rfl)
  simp [World.cell?, hg, h5]
theorem LentTo.room {e : Nat} {enc : α → Value} {mark : Value} {W : World} {g cap m : Nat} {xs : List α} (h : LentTo e enc mark W g cap xs m) : xs.length ≤ cap := by
  obtain ⟨cells, hg, h1, h2, h3⟩ := h
  omega
theorem LentTo.mark_cell {e : Nat} {enc : α → Value} {mark : Value} {W : World} {g cap m : Nat} {xs : List α} (h : LentTo e enc mark W g cap xs m) {j : Nat} (hj : j < m) : W.cell? ⟨g, xs.length + j, none⟩ = some mark := by
  obtain ⟨cells, hg, h1, h2, h3, h4⟩ := h
  simp [World.cell?, hg, h4 j hj]
/-- One mark more. -/
theorem LentTo.put {e : Nat} {enc : α → Value} {mark : Value} {W : World} {g cap m : Nat} {xs : List α} (h : LentTo e enc mark W g cap xs m) (hm : m < 3) : LentTo e enc mark (W.setCell ⟨g, xs.length + m, none⟩ mark) g cap xs (m + 1) := by
  obtain ⟨cells, hg, h1, h2, h3, h4⟩ := h
  refine ⟨cells.setIfInBounds (xs.length + m) mark, ?_, by simp [h1], h2, fun j x hj => ?_, fun j hj => ?_⟩
  · have hlt : g < W.heap.size := (Array.getElem?_eq_some_iff.1 hg).1
    have hge : W.heap[g] = .cells cells e (0, 0) := by have := (Array.getElem?_eq_some_iff.1 hg).2; exact this
    simp [World.setCell, Array.getElem?_modify, hg]
  · have hl : j < xs.length := (List.getElem?_eq_some_iff.1 hj).1
    rw [Array.getElem?_setIfInBounds_ne (by omega)]; exact h3 j x hj
  · by_cases hjm : j = m
    · subst hjm; rw [Array.getElem?_setIfInBounds]; simp; omega
    · rw [Array.getElem?_setIfInBounds_ne (by omega)]; exact h4 j (by omega)
theorem LentTo.cell_any {e : Nat} {enc : α → Value} {mark : Value} {W : World} {g cap m : Nat} {xs : List α} (h : LentTo e enc mark W g cap xs m) {j : Nat} (hj : j < cap) : ∃ v, W.cell? ⟨g, j, none⟩ = some v := by
  obtain ⟨cells, hg, h1, h2, h3, h4⟩ := h
  exact ⟨cells[j]'(by omega), by simp [World.cell?, hg]⟩
theorem LentTo.unfrozen {e : Nat} {enc : α → Value} {mark : Value} {W : World} {g cap m : Nat} {xs : List α} (h : LentTo e enc mark W g cap xs m) (j : Nat) : W.frozen? ⟨g, j, none⟩ = false := by
  obtain ⟨cells, hg, _⟩ := h
  simp [World.frozen?, hg]

/-- What is copied into a room that was just made. -/
theorem lent_append (w : World) (A0 : Option Addr) (c0 : Nat) (l0 : List Int) (hr0 : (Kd.int .u8).C w A0 l0.length l0) :
    ∃ W2, (Builtin.append_ #[22, 22] 22 #[.slice (some ⟨w.heap.size, 0, none⟩) 0 (l0.length + 3), .slice A0 l0.length c0]).run Tryd.prog (w.alloc (.cells (madeCells #[.int .u8 0] (l0.length + 3)) 5)) = .ok (.slice (some ⟨w.heap.size, 0, none⟩) l0.length (l0.length + 3)) W2 ∧
      LentTo 5 (Value.int .u8) (.int .u8 119) W2 w.heap.size (l0.length + 3) l0 0 ∧ Below w.heap.size w W2 := by
  have hsz : ∀ n, (madeCells #[Value.int .u8 0] n).size = n := fun n => by simp [madeCells]
  have hnew : (w.alloc (.cells (madeCells #[.int .u8 0] (l0.length + 3)) 5)).heap[w.heap.size]? = some (.cells (madeCells #[.int .u8 0] (l0.length + 3)) 5 (0, 0)) := by simp [World.alloc, -World.alloc_eq]
  have hB := (Below.refl w.heap.size w).alloc (Nat.le_refl _) (.cells (madeCells #[.int .u8 0] (l0.length + 3)) 5)
  obtain ⟨i0, hi, hz0, hz1, hz2⟩ := info_parts (show (Tryd.prog.info? 5).map (fun i => (i.zero, i.size, i.bytes)) = some (some (.int .u8 0), 1, 1) by kernel_rfl)
  cases A0 with
  | none =>
    have h0 : l0 = [] := by
      rcases l0 with _ | ⟨x, l⟩
      · rfl
      · obtain ⟨ad, e, _⟩ := hr0.2.2 (by simp)
        cases e
    subst h0
    refine ⟨_, ?_, ⟨_, hnew, by rw [hsz], rfl, by simp, fun j hj => by omega⟩, hB⟩
    simp [Builtin.append_, run_underlying Tryd.underlying22, sizeOf, typeInfo, hi, Builtin.lenOf, run_firstCells_none, storeCells]
  | some ad =>
    obtain ⟨news, hnr, hnc⟩ := ReadsRow.inner_ hr0
    have hnl : news.length = l0.length := by have := hnr.1; rw [this]; show l0.length * 1 = _; omega
    have hone : ∀ u ∈ news, u.oneCell' = true := by
      intro u hu
      obtain ⟨j, hj, rfl⟩ := List.mem_iff_getElem.1 hu
      have hjl : j < l0.length := by omega
      have h2 := hnr.2 j _ (List.getElem?_eq_getElem hjl)
      have h3 : List.take 1 (List.drop (j * 1) news) = [.int .u8 l0[j]] := h2
      have h4 : news[j]? = some (.int .u8 l0[j]) := by
        have := congrArg (fun l => l[0]?) h3
        simpa using this
      rw [List.getElem?_eq_getElem hj] at h4
      have h5 : news[j] = .int .u8 l0[j] := by simpa using h4
      rw [h5]; rfl
    have hat : ∀ (j : Nat) x, l0[j]? = some x → news[j]? = some (.int .u8 x) := by
      intro j x hx
      have h2 := hnr.2 j _ hx
      have h3 : List.take 1 (List.drop (j * 1) news) = [.int .u8 x] := h2
      have := congrArg (fun l => l[0]?) h3
      simpa using this
    have hrun := run_append_room (P := Tryd.prog) (w.alloc (.cells (madeCells #[.int .u8 0] (l0.length + 3)) 5)) 22 22 5 i0 Tryd.underlying22 hi w.heap.size 0 (l0.length + 3) _ hnew ad l0.length c0 news (by rw [hz1, hnl]; omega) (fun j u hu => pw_cell_below hB (hnc j u hu)) hone (by omega) (by rw [hnl, hsz]; omega)
    simp only [Nat.zero_mul, Nat.zero_add, List.take_zero, List.nil_append] at hrun
    refine ⟨_, hrun, ?_, ?_⟩
    · refine ⟨(news ++ (madeCells #[Value.int .u8 0] (l0.length + 3)).toList.drop news.length).toArray, ?_, ?_, rfl, ?_, fun j hj => by omega⟩
      · simp only [World.setRow, Array.getElem?_modify, hnew]; simp
      · simp [hsz, hnl]
      · intro j x hx
        have h1 := hat j x hx
        have hj : j < news.length := (List.getElem?_eq_some_iff.1 h1).1
        simp only [List.getElem?_toArray]
        rw [List.getElem?_append_left hj]
        exact h1
    · refine ⟨rfl, rfl, rfl, by simp [World.setRow, World.alloc, -World.alloc_eq], fun i hi2 => ?_⟩
      have hne : ¬ w.heap.size = i := by omega
      simp [World.setRow, Array.getElem?_modify, World.alloc, -World.alloc_eq, hne, Array.getElem?_push, Ne.symm hne]

/-! ### LendBytes -/
set_option maxHeartbeats 1600000 in
set_option maxRecDepth 100000 in
theorem lendBytes_calls (A0 : Option Addr) (c0 : Nat) (l0 : List Int) (w : World) (hr0 : (Kd.int .u8).C w A0 l0.length l0) (hl : l0.length ≤ 1000000000) :
    Calls Tryd.prog 12 #[.slice A0 l0.length c0] w fun e w' => ∃ g cap : Nat, e = .returned (.slice (some ⟨g, 0, none⟩) l0.length cap) ∧ LentTo 5 (Value.int .u8) (.int .u8 119) w' g cap l0 3 ∧ w.heap.size ≤ g ∧ Below w.heap.size w w' := by
  obtain ⟨W2, hap, hL, hB⟩ := lent_append w A0 c0 l0 hr0
  obtain ⟨n, hn⟩ : ∃ n, l0.length = n := ⟨_, rfl⟩
  have HN := Aside0.mk hn
  rw [hn] at hl hr0 hap hL ⊢
  clear hr0
  have HL := Aside0.mk hL
  have HB := Aside0.mk hB
  have HP := Aside0.mk hap
  clear hn hL hB hap
  have hmk : ∀ W : World, (Instr.makeSlice 22 (.int .i64 0) (.int .i64 ((n : Int) + 3))).run Tryd.prog W = .ok (.slice (some ⟨W.heap.size, 0, none⟩) 0 (n + 3)) (W.alloc (.cells (madeCells #[.int .u8 0] (n + 3)) 5)) := by
    intro W
    obtain ⟨i0, hi, hz0, hz1, hz2⟩ := info_parts (show (Tryd.prog.info? 5).map (fun i => (i.zero, i.size, i.bytes)) = some (some (.int .u8 0), 1, 1) by kernel_rfl)
    have h := run_make (P := Tryd.prog) W 22 5 i0 (.int .u8 0) Tryd.underlying22 hi hz0 .i64 .i64 0 ((n : Int) + 3) (by omega) (by omega) (by rw [hz2]; omega) (by omega)
    have e1 : ((n : Int) + 3).toNat = n + 3 := by omega
    simp only [e1, hz1, Nat.mul_one] at h
    exact h
  go_enter Tryd.func12, Tryd.ntmps12
  go_wp2_with (at_builtin; refine wpList_append_run rfl _ _ 22 22 rfl _ _ _ W2 rfl rfl HP.out ?_)
  have e3 : n + 3 - n = 3 := by omega
  simp only [e3]
  clear e3 hmk HP
  go_loopw [5] (fun vi wr => ∃ k : Nat, k ≤ 3 ∧ vi = .int .i64 k ∧ Aside0 (LentTo 5 (Value.int .u8) (.int .u8 119) wr w.heap.size (n + 3) l0 k) ∧ Aside0 (Below w.heap.size w wr)) (fun vi _ => 3 - (intOf vi).toNat)
  case atStart => exact ⟨0, by omega, rfl, HL, HB⟩
  case round =>
    clear HL HB
    obtain ⟨k, hk, rfl, HL, HB⟩ := hrel
    by_cases hlt : k < 3
    · obtain ⟨v, hv⟩ := HL.out.cell_any (j := n + k) (by omega)
      have hfz := HL.out.unfrozen (n + k)
      go_wp2
      go_roundw
      case rel => exact ⟨k + 1, by omega, by go_num, ⟨by have := HL.out.put hlt; rw [HN.out] at this; exact this⟩, ⟨below_set HB.out (Nat.le_refl _)⟩⟩
      case measure => simp [intOf]; omega
    · have hk3 : k = 3 := by omega
      subst hk3
      go_wp2
      go_ret
      exact ⟨_, _, rfl, HL.out, Nat.le_refl _, HB.out⟩

/-! ### KeptBytes -/
set_option maxHeartbeats 1600000 in
set_option maxRecDepth 100000 in
theorem keptBytes_calls (k : Nat) (g cap : Nat) (l0 : List Int) (A1 : Option Addr) (c1 : Nat) (l1 : List Int) (r : Bool) (w : World) (hL : LentTo 5 (Value.int .u8) (.int .u8 119) w g cap l0 3) (hl : l0.length ≤ 1000000000) (hr1 : (Kd.int .u8).C w A1 l1.length l1) (hc1 : l1.length ≤ c1)
    (h : hogsheadlaw0_SameBytes.f k l0 l1 = some r) :
    Calls Tryd.prog 21 #[.slice (some ⟨g, 0, none⟩) l0.length cap, .slice A1 l1.length c1] w fun e w' => e = .returned (.bool r) ∧ Drawn0 w w' := by
  obtain ⟨n, hn⟩ : ∃ n, l0.length = n := ⟨_, rfl⟩
  have hcap : cap = n + 3 := by obtain ⟨_, _, _, h1, _⟩ := hL; omega
  subst hcap
  have HN := Aside0.mk hn
  have HL := Aside0.mk hL
  have HR := Aside0.mk hr1
  have HC := Aside0.mk hc1
  have HS := Aside0.mk h
  rw [hn] at hl ⊢
  clear hn hL hr1 hc1 h
  go_enter Tryd.func21, Tryd.ntmps21
  go_wp2
  have e3 : n + 3 - n = 3 := by omega
  simp only [e3]
  clear e3
  go_loopw [6] (fun vi wr => ∃ k : Nat, k ≤ 3 ∧ vi = .int .i64 k ∧ Drawn0 w wr) (fun vi _ => 3 - (intOf vi).toNat)
  case atStart => exact ⟨0, by omega, rfl, Drawn0.refl _⟩
  case round =>
    obtain ⟨k, hk, rfl, ⟨m, rfl⟩⟩ := hrel
    by_cases hlt : k < 3
    · have hv := HL.out.mark_cell hlt
      rw [HN.out] at hv
      go_wp2
      go_roundw
      case rel => exact ⟨k + 1, by omega, by go_num, by repeat (first | exact Drawn0.refl _ | apply Drawn0.step)⟩
      case measure => simp [intOf]; omega
    · have hk3 : k = 3 := by omega
      subst hk3
      go_wp2_with fail
      have hlen := HN.out
      rw [← hlen]
      refine (hogsheadlaw0_SameBytes.calls k _ _ l0 _ _ l1 r _ (Kd.C_below (HL.out.reads (by omega)) (pw_below_drewN (Below.refl _ _) m)) (by omega) (Kd.C_below HR.out (pw_below_drewN (Below.refl _ _) m)) HC.out HS.out).mono ?_
      rintro e w2 ⟨rfl, hd⟩
      have HD := Aside0.mk hd
      clear hd hlen
      go_wp2
      go_ret
      exact ⟨rfl, by obtain ⟨m2, rfl⟩ := HD.out; exact (Drawn0.refl _).step m |>.step m2⟩
end Go.Proofs.YtidlgdpjcognpaaDoor.X
