/- A buffer of 512 bytes in a block of the call's own, filled by copies of texts. -/
import Derived.Test.YtidlgdpjcognpaaDoorXT
import Derived.Lib.BufferWrite
import Derived.Laws.CopyOwn
import Derived.Laws.MakeOwn
import Derived.Outline
import Derived.WalkLawsBesides
import Derived.WalkSpells
import Derived.LoopTactic
import Derived.Lib.Hide
namespace Go.Proofs.YtidlgdpjcognpaaDoor.X
open Go.RowKit Go.Proofs.YtidlgdpjcognpaaDoorW.PrintWords
set_option linter.unusedVariables false

theorem calls_of_len {P : Program} {f : FuncId} {A : Option Addr} {n n' c : Nat} {w : World} {Q : Ending → World → Prop} (h : n' = n) (hc : Calls P f #[.slice A n' c] w Q) : Calls P f #[.slice A n c] w Q := h ▸ hc
def putB (xs : List Int) (p : Nat) (s : ByteArray) : List Int := xs.take p ++ bytesOf s ++ xs.drop (p + s.size)
theorem putB_length {xs : List Int} {p : Nat} {s : ByteArray} (h : p + s.size ≤ xs.length) : (putB xs p s).length = xs.length := by
  simp only [putB, List.length_append, List.length_take, List.length_drop, bytesOf_length]
  omega
structure Buf (w0 w : World) (g : Nat) (xs : List Int) : Prop where
  below : Below w0.heap.size w0 w
  old : w0.heap.size ≤ g
  row : w.heap[g]? = some (.cells (nums .u8 xs).toArray 5 (0, 0))
  len : xs.length = 512
theorem Buf.lt {w0 w : World} {g : Nat} {xs : List Int} (h : Buf w0 w g xs) : g < w.heap.size := (Array.getElem?_eq_some_iff.1 h.row).1
theorem Buf.step {w0 w w1 : World} {g : Nat} {xs : List Int} (h : Buf w0 w g xs) (hb : Below w.heap.size w w1) : Buf w0 w1 g xs :=
  ⟨below_step h.below hb, h.old, (hb.block g h.lt).trans h.row, h.len⟩
theorem nums_put (xs : List Int) (p : Nat) (s : ByteArray) : ((nums .u8 xs).toArray.toList.take p ++ Lib.byteCells s.data.toList ++ (nums .u8 xs).toArray.toList.drop (p + s.size)).toArray = (nums .u8 (putB xs p s)).toArray := by
  simp [nums, putB, bytesOf, Lib.byteCells, List.map_take, List.map_drop]
theorem Buf.put {w0 w : World} {g : Nat} {xs : List Int} (h : Buf w0 w g xs) (p : Nat) (s : ByteArray) (hp : p + s.size ≤ 512) (ty : TypeId) (m c : Nat) (hm : s.size ≤ m) :
    ∃ w', (Builtin.copy_ #[22, 9] ty #[.slice (some ⟨g, p, none⟩) m c, .string s]).run Tryd.prog w = .ok (goInt s.size) w' ∧ Buf w0 w' g (putB xs p s) ∧ w'.heap.size = w.heap.size ∧ ∀ k, k ≠ g → w'.heap[k]? = w.heap[k]? := by
  have hsz : (nums .u8 xs).toArray.size = 512 := by simp [nums, h.len]
  refine ⟨_, Lib.run_copy_row_string w 22 9 ty 5 g p m c s _ _ Tryd.underlying22 (by kernel_rfl) h.row hm (by rw [hsz]; exact hp), ⟨below_setRow h.below h.old _, h.old, ?_, ?_⟩, by simp, fun k hk => setRow_other _ _ _ _ hk⟩
  · rw [setRow_heap _ _ _ _ _ _ h.row, nums_put]
  · rw [putB_length (by rw [h.len]; exact hp)]; exact h.len
theorem Buf.R {w0 w : World} {g : Nat} {xs : List Int} (h : Buf w0 w g xs) : (Kd.int .u8).R 5 w w0.heap.size (fun _ => True) (.slice (some ⟨g, 0, none⟩) 512 512) xs := by
  refine Kd.R_of_own (enc := Value.int .u8) (h1 := fun _ => rfl) ⟨by simp [encs], .inr ⟨g, 512, (nums .u8 xs).toArray, by rw [h.len], h.old, h.row, by rw [h.len]; exact Nat.le_refl _, by decide, by simp [nums, h.len], ?_⟩⟩ (fun _ _ => trivial)
  rw [Nat.mul_one, h.len]
  have e : (nums .u8 xs).length = 512 := by simp [nums, h.len]
  show (nums .u8 xs).take 512 = _
  rw [List.take_of_length_le (by omega)]
  rfl
theorem Buf.cell {w0 w : World} {g : Nat} {xs : List Int} (h : Buf w0 w g xs) (i : Nat) (hi : i < 512) : w.cell? ⟨g, i, none⟩ = some (.int .u8 (rd xs i)) := by
  have hl : i < xs.length := by rw [h.len]; exact hi
  simp [World.cell?, h.row, nums, rd, List.getD_eq_getElem?_getD, hl]

def sumB (xs : List Int) (s : Int := 0) : Int := xs.foldl (fun s x => wrap64 (s + wrap64 x)) s
theorem sumB_take (xs : List Int) (i : Nat) (h : i < xs.length) : sumB (xs.take (i + 1)) = wrap64 (sumB (xs.take i) + wrap64 (rd xs (i : Int))) := by
  have e : rd xs (i : Int) = xs[i] := by simp [rd, List.getD_eq_getElem?_getD, h]
  rw [List.take_succ_eq_append_getElem h, e]
  unfold sumB
  rw [List.foldl_append]
  rfl
def zeros512 : List Int := List.replicate 512 0
set_option maxRecDepth 100000 in
theorem make512 (W : World) : (Instr.makeSlice 22 (.int .i64 512) (.int .i64 512)).run Tryd.prog W = .ok (.slice (some ⟨W.heap.size, 0, none⟩) 512 512) (W.alloc (.cells (nums .u8 zeros512).toArray 5)) := by
  have hi0 : (Tryd.prog.info? 5).map (fun i => (i.zero, i.size, i.bytes)) = some (some (.int .u8 0), 1, 1) := by kernel_rfl
  obtain ⟨i, hi, he⟩ := Option.map_eq_some_iff.1 hi0
  obtain ⟨hz, he⟩ := Prod.mk.inj he
  obtain ⟨hs, hby⟩ := Prod.mk.inj he
  have := run_make (P := Tryd.prog) W 22 5 i (.int .u8 0) Tryd.underlying22 hi hz .i64 .i64 512 512 (by omega) (by omega) (by rw [hby]; decide) (by omega)
  rw [this, hs]
  have e : madeCells (Value.int .u8 0).cells (512 * 1) = (nums .u8 zeros512).toArray := by kernel_rfl
  show Result.ok _ (W.alloc (.cells (madeCells (Value.int .u8 0).cells (512 * 1)) _)) = _
  rw [e]
  rfl
/-- The buffer as it is made, and its box. -/
theorem Buf.made {w0 w : World} (hb : Below w0.heap.size w0 w) (v : Value) : Buf w0 ((w.alloc (.cells (nums .u8 zeros512).toArray 5)).alloc (.cells #[v] 22)) w.heap.size zeros512 :=
  ⟨below_alloc (below_alloc hb _) _, hb.size, by show ((w.heap.push _).push _)[w.heap.size]? = _; rw [Array.getElem?_push, if_neg (by rw [Array.size_push]; omega), Array.getElem?_push, if_pos rfl], by rw [zeros512, List.length_replicate]⟩

theorem Buf.free {w0 w : World} {g : Nat} {xs : List Int} (h : Buf w0 w g xs) (i : Nat) : w.frozen? ⟨g, i, none⟩ = false := by
  simp [World.frozen?, h.row]
theorem Buf.set {w0 w : World} {g : Nat} {xs : List Int} (h : Buf w0 w g xs) (i : Nat) (v : Int) : Buf w0 (w.setCell ⟨g, i, none⟩ (.int .u8 v)) g (xs.set i v) := by
  have e := setCell_eq_setRow w g i _ _ _ (.int .u8 v) h.row
  rw [e]
  refine ⟨below_setRow h.below h.old _, h.old, ?_, by rw [List.length_set]; exact h.len⟩
  rw [setRow_heap _ _ _ _ _ _ h.row]
  congr 2
  simp [nums, List.map_set]

/-- The buffer as it is made, without a box. -/
theorem Buf.made1 {w0 w : World} (hb : Below w0.heap.size w0 w) : Buf w0 (w.alloc (.cells (nums .u8 zeros512).toArray 5)) w.heap.size zeros512 :=
  ⟨below_alloc hb _, hb.size, by show (w.heap.push _)[w.heap.size]? = _; rw [Array.getElem?_push, if_pos rfl], by rw [zeros512, List.length_replicate]⟩
/-- A copy of a text into the buffer, met by the walk. -/
theorem upon_put {w0 W : World} {g : Nat} {xs : List Int} (hF : Buf w0 W g xs) (p : Nat) (s : ByteArray) (hp : p + s.size ≤ 512) {o : Oper} {a : Act} {K : Act → World → Prop} {Q : Exit → Act → World → Prop} {f : Value → World → Result Next} {ty : TypeId} {m c : Nat} (hm : s.size ≤ m)
    (h : ∀ W', Buf w0 W' g (putB xs p s) → W'.heap.size = W.heap.size → Oper.upon Tryd.prog o a K Q ((Result.ok (goInt s.size) W').andThen f)) :
    Oper.upon Tryd.prog o a K Q (((Builtin.copy_ #[22, 9] ty #[.slice (some ⟨g, p, none⟩) m c, .string s]).run Tryd.prog W).andThen f) := by
  obtain ⟨W', hr, hb, hs, _⟩ := hF.put p s hp ty m c hm
  rw [hr]
  exact h W' hb hs

set_option maxHeartbeats 1600000 in
set_option maxRecDepth 100000 in
theorem put_calls (w0 w : World) (g bx : Nat) (xs : List Int) (pi : Int) (p : Nat) (hpi : pi = (p : Int)) (s : ByteArray) (hb : Buf w0 w g xs) (hx : w.heap[bx]? = some (.cells #[.slice (some ⟨g, 0, none⟩) 512 512] 22 (0, 0))) (hne : bx ≠ g) (hp : p + s.size ≤ 512) (hp2 : p < 512) :
    Calls Tryd.prog 38 #[.int .i64 pi, .string s, .pointer (some ⟨bx, 0, none⟩)] w fun e w' => e = .returned (.tuple #[]) ∧ Buf w0 w' g (putB xs p s) ∧ w'.heap.size = w.heap.size ∧ w'.heap[bx]? = some (.cells #[.slice (some ⟨g, 0, none⟩) 512 512] 22 (0, 0)) := by
  subst hpi
  have hc := cell_of_one hx
  have hn : ¬ (512 : Nat) = p := by omega
  obtain ⟨w1, hcp, hb1, hs1, ho1⟩ := hb.put p s hp 3 (512 - p) (512 - p) (by omega)
  go_enter Tryd.func38, Tryd.ntmps38
  go_wp2_with fail
  go_end0
  exact ⟨rfl, hb1, hs1, (ho1 bx hne).trans hx⟩
theorem tail_fits (q : ByteArray) (h : q.size + 2 ≤ 364) : 148 + (q ++ (⟨#[0, 32]⟩ : ByteArray)).size ≤ 512 := by
  have e0 : (⟨#[0, 32]⟩ : ByteArray).size = 2 := rfl
  rw [ByteArray.size_append, e0]
  omega
theorem tail_fits2 (q : ByteArray) (h : q.size + 2 ≤ 364) : (q ++ (⟨#[0, 32]⟩ : ByteArray)).size ≤ 364 := by
  have := tail_fits q h
  omega
theorem put_tail (w0 w : World) (g bx : Nat) (xs : List Int) (q : ByteArray) (hb : Buf w0 w g xs) (hx : w.heap[bx]? = some (.cells #[.slice (some ⟨g, 0, none⟩) 512 512] 22 (0, 0))) (hne : bx ≠ g) (hf : q.size + 2 ≤ 364) :
    Calls Tryd.prog 38 #[.int .i64 148, .string (q ++ (⟨#[0, 32]⟩ : ByteArray)), .pointer (some ⟨bx, 0, none⟩)] w fun e w' => e = .returned (.tuple #[]) ∧ Buf w0 w' g (putB xs 148 (q ++ (⟨#[0, 32]⟩ : ByteArray))) ∧ w'.heap[bx]? = some (.cells #[.slice (some ⟨g, 0, none⟩) 512 512] 22 (0, 0)) :=
  (put_calls w0 w g bx xs 148 148 rfl _ hb hx hne (tail_fits q hf) (by omega)).mono fun e w' h => ⟨h.1, h.2.1, h.2.2.2⟩
end Go.Proofs.YtidlgdpjcognpaaDoor.X
