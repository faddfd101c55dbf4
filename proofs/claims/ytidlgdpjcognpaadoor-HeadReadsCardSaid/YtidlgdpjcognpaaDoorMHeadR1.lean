/- Part 1 of what is behind the rows RowHeadReads: XT, XR0, XD, XPG, X1, P0, Pf24, Pf25, Pf26, Pf27, XPH, XPI, XB, Pf55, Pf37, Pf39, Pf40, X5, Pf41, Pf42, Pf43. -/
import Derived.Test.YtidlgdpjcognpaaDoorProg
import Derived.Test.YtidlgdpjcognpaaDoorWWords
import Derived.Test.YtidlgdpjcognpaaDoorWMore
import Derived.Lib.ItoaNum
import Derived.Lib.ItoaMem
import Derived.Test.YtidlgdpjcognpaaDoorRows
import Derived.WalkKit
import Derived.ProofKit
import Derived.OpenShut
import Derived.ShutString
import Derived.SizedLaws
import Derived.Deep.DeepHandedRow
import Derived.Lib.LaidTab
import Derived.LaidMore
import Derived.Stop.Joined
import Derived.Test.YtidlgdpjcognpaaDoorWSized
import Derived.Test.YtidlgdpjcognpaaDoorShelf
import Derived.Lib.IndexMore
import Derived.Lib.Bytealg
import Derived.Laws.BitsAllLaws
import Derived.Lib.Repeat
import Derived.Outline
import Derived.WalkLawsBesides
import Derived.WalkSpells
import Derived.LoopTactic
import Derived.Laws.Bits64b
import Derived.Laws.BytesArg
import Derived.Lib.Hide
import Derived.Laws.NewBlocks
import Derived.Lib.AppendIntMem
import Derived.Below
import Derived.Deep.Draws
import Derived.Deep.AppendLies
import Derived.Maps.AppendAt
import Derived.OwnWalk
import Derived.Laws.MakeOwn
import Derived.Laws.OwnMore
import Derived.Deep.OwnRows
import Derived.Tactics
import Derived.Lib.ConvBytes
import Derived.Laws.Slices
import Derived.KernelRfl
import Derived.RowKit3
import Derived.Deep.LoopGhost
import Derived.Deep.QuietTactic
import Derived.BigQuiet
import Derived.WideLaws
import Derived.Deep.DeepCutAuto
import Derived.Deep.CutBlock
import Derived.Deep.RegionHeld3
import Derived.Laws.Rows
import Derived.Lib.AppendStr
import Derived.ArgAppend
import Derived.Laws.IdiomCopy
import Derived.OrdersHeld
import Derived.Laws.BitsLemmas
import Derived.RowKit
import Derived.Test.YtidlgdpjcognpaaDoorWLast
import Derived.Test.YtidlgdpjcognpaaDoorWTab
import Derived.Test.YtidlgdpjcognpaaDoorWFour
import Derived.Test.YtidlgdpjcognpaaDoorWQPut
import Derived.Test.YtidlgdpjcognpaaDoorWApart
import Derived.Test.YtidlgdpjcognpaaDoorWArr
import Derived.Test.YtidlgdpjcognpaaDoorWZeros
import Derived.Test.YtidlgdpjcognpaaDoorWFoot
import Derived.Test.YtidlgdpjcognpaaDoorWKept
import Derived.Test.YtidlgdpjcognpaaDoorWShare
import Derived.Test.YtidlgdpjcognpaaDoorWN
import Derived.Test.YtidlgdpjcognpaaDoorWFootNe
import Derived.Test.YtidlgdpjcognpaaDoorWAt
import Derived.Test.YtidlgdpjcognpaaDoorWEqStruct
import Derived.Test.YtidlgdpjcognpaaDoorWRepsOne
import Derived.Test.YtidlgdpjcognpaaDoorWInv
import Derived.Test.YtidlgdpjcognpaaDoorWInvWords
import Derived.Test.YtidlgdpjcognpaaDoorWGuard
import Derived.Test.YtidlgdpjcognpaaDoorWNEv
import Derived.Lib.BufferWrite
import Derived.Laws.CopyOwn
/- What the library's tables hold in a world of this seat: the facts that the contracts over them ask, and that calls keep. -/
namespace Go.Proofs.YtidlgdpjcognpaaDoor.X
open Go.RowKit Go.Proofs.YtidlgdpjcognpaaDoorW.PrintWords

/-- The tables that the library's functions read here. -/
structure Tabs (w : World) : Prop where
  t16 : w.cell? ⟨3, 15, none⟩ = some (.int .u8 4)
  t8 : w.cell? ⟨3, 7, none⟩ = some (.int .u8 3)
  pow : Lib.TabIs Tryd.prog w "internal/strconv.uint64pow10" .u64 Lib.pow10Tab
  maxl : ∃ m : Int, w.cell? ⟨1, 0, none⟩ = some (.int .i64 m)

theorem tabIs_below {P : Program} {w w1 : World} {n : String} {k : IntKind} {zs : List Int} (h : Lib.TabIs P w n k zs) (hb : Below w.heap.size w w1) : Lib.TabIs P w1 n k zs := by
  unfold Lib.TabIs World.var? at h ⊢
  cases hg : P.globalNamed n with
  | none => simp [hg] at h
  | some g =>
    simp only [hg, Option.bind_some] at h ⊢
    have hlt : g < w.heap.size := by
      rcases Nat.lt_or_ge g w.heap.size with h' | h'
      · exact h'
      · simp [Array.getElem?_eq_none h'] at h
    rw [hb.block g hlt]
    exact h
theorem Tabs.below {w w1 : World} (h : Tabs w) (hb : Below w.heap.size w w1) : Tabs w1 where
  t16 := pw_cell_below hb h.t16
  t8 := pw_cell_below hb h.t8
  pow := tabIs_below h.pow hb
  maxl := let ⟨m, hm⟩ := h.maxl; ⟨m, pw_cell_below hb hm⟩
theorem C_string_any {P : Program} {w : World} {src dst e : TypeId} {A : Option Addr} {c : Nat} {xs : List Int} (hs : P.underlying src = some (.slice e)) (he : P.underlying e = some (.int .u8)) (hd : P.underlying dst = some .string)
    (h : (Kd.int .u8).C w A xs.length xs) : ∀ (m n : Nat), n = xs.length → (convert src dst (.slice A n c)).run P (w.drewN m) = .ok (.string (strOfNums xs)) (w.drewN m) := by
  rintro m n rfl
  exact Kd.C_string hs he hd (Kd.C_below h (pw_below_drewN (Below.refl _ _) m))
theorem Tabs.drawn {w w1 : World} (h : Tabs w) (hd : Drawn0 w w1) : Tabs w1 := h.below hd.below
/-- append, its run known. -/
theorem wpList_append_run {P : Program} {ops : Array Oper} {rest : List Oper} {o : Oper} {a : Act} {Q : Exit → Act → World → Prop} {W : World} (hgd : o.guard = none) (s x : Operand) (t u : TypeId)
    (ho : o.op = .call { callee := .builtin .append, args := #[s, x], argTypes := #[t, u] }) (v1 v2 v : Value) (W2 : World) (hs : a.eval s = v1) (hx : a.eval x = v2)
    (hr : (Builtin.append_ #[t, u] o.type #[v1, v2]).run P W = .ok v W2) (h : wpList P ops Q rest (a.put o.dst v) W2) : wpList P ops Q (o :: rest) a W :=
  wpList_plain hgd fun K hK => by
    unfold Oper.wp execOp
    simp only [ho, resolve, invoke, builtin, Sem.run_bind, Sem.run_pure, Result.andThen_ok, List.map_toArray, List.map_cons, List.map_nil, hs, hx, hr]
    exact hK _ _ h
/-- copy, its run known. -/
theorem wpList_copy_run {P : Program} {ops : Array Oper} {rest : List Oper} {o : Oper} {a : Act} {Q : Exit → Act → World → Prop} {W : World} (hgd : o.guard = none) (s x : Operand) (t u : TypeId)
    (ho : o.op = .call { callee := .builtin .copy, args := #[s, x], argTypes := #[t, u] }) (v1 v2 v : Value) (W2 : World) (hs : a.eval s = v1) (hx : a.eval x = v2)
    (hr : (Builtin.copy_ #[t, u] o.type #[v1, v2]).run P W = .ok v W2) (h : wpList P ops Q rest (a.put o.dst v) W2) : wpList P ops Q (o :: rest) a W :=
  wpList_plain hgd fun K hK => by
    unfold Oper.wp execOp
    simp only [ho, resolve, invoke, builtin, Sem.run_bind, Sem.run_pure, Result.andThen_ok, List.map_toArray, List.map_cons, List.map_nil, hs, hx, hr]
    exact hK _ _ h
end Go.Proofs.YtidlgdpjcognpaaDoor.X

/- What a row that lists the library's tables gives the walks, and a world in which they are laid. -/
namespace Go.Proofs.YtidlgdpjcognpaaDoor.X
open Go.RowKit Go.Proofs.YtidlgdpjcognpaaDoorW.PrintWords
set_option linter.unusedVariables false

theorem own : ownKnob Tryd.prog.godebug = none := by kernel_rfl
theorem laidOut : laidOutB Tryd.prog = true := by kernel_rfl
theorem laid_tail {P : Program} {W : World} {x : String × DataW Unit} {rest : List (String × DataW Unit)} (h : laidMet P (x :: rest) W) : laidMet P rest W := by
  obtain ⟨ps, hv, hn, hc⟩ := h
  obtain ⟨name, d⟩ := x
  obtain ⟨g, t, cs, fuel, p, q, hg, ht, hvar, hd, hr, rfl⟩ := hv
  exact ⟨q, hr, (List.nodup_append.1 hn).2.1, fun b off hm => hc b off (List.mem_append_right _ hm)⟩
def deB64 : List Int := [0, 1, 56, 2, 57, 49, 28, 3, 61, 58, 42, 50, 38, 29, 17, 4, 62, 47, 59, 36, 45, 43, 51, 22, 53, 39, 33, 30, 24, 18, 12, 5, 63, 55, 48, 27, 60, 41, 37, 16, 46, 35, 44, 21, 52, 32, 23, 11, 54, 26, 40, 15, 34, 20, 31, 10, 25, 14, 19, 9, 13, 8, 7, 6]
def laidList : List (String × DataW Unit) := [("math/bits.deBruijn32tab", Rows.laid_math_bits_deBruijn32tab), ("math/bits.deBruijn64tab", Rows.laid_math_bits_deBruijn64tab), ("internal/strconv.uint64pow10", Rows.laid_internal_strconv_uint64pow10)]
/-- The tables that a row lists, in the walks' words; the library's own variables have some number. -/
theorem tabs_of {W : World} (h : laidMetH Tryd.prog laidList W) (hsh : W.ShapedOpen Tryd.prog) : Tabs W := by
  have h0 : laidMet Tryd.prog laidList W := h
  have h1 := laid_tail h0
  have h2 := laid_tail h1
  have t64 : Lib.TabIs Tryd.prog W "math/bits.deBruijn64tab" .u8 deB64 :=
    Lib.tabIs_of_head (t := 101) (e := 5) (n := 64) (g := 3) (by kernel_rfl) (by kernel_rfl) Tryd.underlying101 Tryd.underlying5 (by kernel_rfl) (by kernel_rfl) h1
  have t10 : Lib.TabIs Tryd.prog W "internal/strconv.uint64pow10" .u64 Lib.pow10Tab :=
    Lib.tabIs_of_head (t := 91) (e := 23) (n := 20) (g := 0) (by kernel_rfl) (by kernel_rfl) Tryd.underlying91 Tryd.underlying23 (by kernel_rfl) (by kernel_rfl) h2
  exact ⟨t64.cell (g := 3) (by kernel_rfl) 15 (by decide), t64.cell (g := 3) (by kernel_rfl) 7 (by decide), t10, cell_of_shapedOpen_int (zero := #[.int .i64 0]) (t := 3) hsh (of_decide_eq_true (by kernel_rfl)) (by kernel_rfl) rfl (by kernel_rfl) (by kernel_rfl) Tryd.underlying3⟩
noncomputable def laidWorld (os : Os) : World := World.doorLaid Tryd.prog 400 os
end Go.Proofs.YtidlgdpjcognpaaDoor.X

/- Digits of a number in a base from 2 to 36, as plain lists of bytes; and the box of 65 cells in which the library lays them. -/
namespace Go.Proofs.YtidlgdpjcognpaaDoor.X
open Go.RowKit
set_option linter.unusedVariables false
set_option linter.unusedSimpArgs false

/-- a digit's sign -/
def dch (k : Nat) : UInt8 := if k < 10 then UInt8.ofNat (48 + k) else UInt8.ofNat (87 + k)
/-- the digits of a number in base b -/
def digitsOf (b : Nat) (u : Nat) : List UInt8 := if h : u < b ∨ b < 2 then [dch u] else digitsOf b (u / b) ++ [dch (u % b)]
termination_by u
decreasing_by
  have : ¬ u < b := fun x => h (.inl x)
  have : ¬ b < 2 := fun x => h (.inr x)
  exact Nat.div_lt_self (by omega) (by omega)
theorem digitsOf_lt {b u : Nat} (h : u < b) : digitsOf b u = [dch u] := by unfold digitsOf; rw [dif_pos (.inl h)]
theorem digitsOf_ge {b u : Nat} (h : b ≤ u) (hb : 2 ≤ b) : digitsOf b u = digitsOf b (u / b) ++ [dch (u % b)] := by
  rw [digitsOf]; rw [dif_neg (by omega)]

/-- the box of digits: what stands in it -/
structure Box (C : Array Value) (ds : List UInt8) : Prop where
  size : C.size = 65
  len : ds.length ≤ 65
  old : ∀ j, j < 65 → ∃ z : Int, C[j]? = some (.int .u8 z)
  new : ∀ j (h : j < ds.length), C[65 - ds.length + j]? = some (.int .u8 (ds[j].toNat))

theorem box_put {C : Array Value} {ds : List UInt8} (h : Box C ds) (hl : ds.length < 65) (x : UInt8) : Box (C.setIfInBounds (64 - ds.length) (.int .u8 (x.toNat : Int))) (x :: ds) := by
  refine ⟨by simp [h.size], by simp; omega, ?_, ?_⟩
  · intro j hj
    by_cases e : 64 - ds.length = j
    · subst e; exact ⟨(x.toNat : Int), by rw [Array.getElem?_setIfInBounds]; simp [h.size]; omega⟩
    · obtain ⟨z, hz⟩ := h.old j hj
      exact ⟨z, by rw [Array.getElem?_setIfInBounds_ne (by omega)]; exact hz⟩
  · intro j hj
    cases j with
    | zero =>
      have e : 65 - (x :: ds).length + 0 = 64 - ds.length := by simp only [List.length_cons]; omega
      rw [e, Array.getElem?_setIfInBounds]
      simp [h.size]; omega
    | succ j =>
      have hj' : j < ds.length := by simpa using hj
      have := h.new j hj'
      rw [show 65 - (x :: ds).length + (j + 1) = 65 - ds.length + j by simp only [List.length_cons]; omega]
      rw [Array.getElem?_setIfInBounds_ne (by omega)]
      simpa using this
abbrev digs : ByteArray := ⟨#[48, 49, 50, 51, 52, 53, 54, 55, 56, 57, 97, 98, 99, 100, 101, 102, 103, 104, 105, 106, 107, 108, 109, 110, 111, 112, 113, 114, 115, 116, 117, 118, 119, 120, 121, 122]⟩
theorem digs_at (k : Nat) (hk : k < 36) (h : k < digs.size) : digs[k] = dch k := by
  have : ∀ j : Fin 36, digs[j.val]'(by have := j.2; exact this) = dch j.val := by decide +kernel
  exact this ⟨k, hk⟩
theorem room_ (u v m : Nat) (hu : u < 18446744073709551616) (h : v * 2 ^ m ≤ u) (hv : 1 ≤ v) : m < 64 := by
  rcases Nat.lt_or_ge m 64 with h1 | h1
  · exact h1
  · have : 2 ^ 64 ≤ 2 ^ m := Nat.pow_le_pow_right (by omega) h1
    have : 1 * 2 ^ m ≤ v * 2 ^ m := Nat.mul_le_mul_right _ hv
    omega
end Go.Proofs.YtidlgdpjcognpaaDoor.X

/- Plain words on texts, bytes and lists. -/
namespace Go.Proofs.YtidlgdpjcognpaaDoor.X
open Go.RowKit Go.Proofs.YtidlgdpjcognpaaDoorW.PrintWords
set_option linter.unusedVariables false
set_option linter.unusedSimpArgs false

theorem wrap_up {i : Int} {n : Nat} (h0 : 0 ≤ i) (h : i < (n : Int)) (hn : n ≤ 9223372036854775807) : wrap64 (i + 1) = i + 1 := by
  unfold wrap64
  omega
theorem rd_getElem (xs : List Int) (j : Nat) (h : j < xs.length) : rd xs (j : Int) = xs[j] := by
  simp [rd, List.getD_eq_getElem?_getD, h]

theorem repeatL_zero : ∀ n, Lib.repeatL [48] n = List.replicate n (dch 0)
  | 0 => rfl
  | n + 1 => by rw [Lib.repeatL, repeatL_zero n, List.replicate_succ]; rfl
theorem size_mk (l : List UInt8) : (⟨l.toArray⟩ : ByteArray).size = l.length := by simp [ByteArray.size]
theorem append_mk (l m : List UInt8) : (⟨l.toArray⟩ : ByteArray) ++ ⟨m.toArray⟩ = ⟨(l ++ m).toArray⟩ := by
  apply ByteArray.ext
  simp
theorem strOf_nums (l : List UInt8) : strOfNums (l.map fun b => (b.toNat : Int)) = ⟨l.toArray⟩ := by
  unfold strOfNums
  congr 2
  simp [List.map_map, Function.comp_def]
theorem xor_cancel_right {a b c : Nat} (h : a ^^^ c = b ^^^ c) : a = b := by
  have := congrArg (· ^^^ c) h
  simpa [Nat.xor_assoc] using this
theorem xor_cancel_left {a b c : Nat} (h : c ^^^ a = c ^^^ b) : a = b := by
  rw [Nat.xor_comm c a, Nat.xor_comm c b] at h
  exact xor_cancel_right h
theorem bt_nat (s : ByteArray) (i : Nat) (h : i < s.size) : bt s (i : Int) = ((s.data.toList[i]'(by rw [data_length]; exact h)).toNat : Int) := by
  simp [bt, h]
  rfl
theorem drop_data (s : ByteArray) (i : Nat) (h : i < s.size) : s.data.toList.drop i = (s.data.toList[i]'(by rw [data_length]; exact h)) :: s.data.toList.drop (i + 1) := List.drop_eq_getElem_cons (by rw [data_length]; exact h)
theorem toList_nil (s : ByteArray) : s.toList = [] ↔ s.size = 0 := by
  rw [ByteArray.toList_eq, ← List.length_eq_zero_iff, data_length]
theorem indexByte_none (l : List UInt8) (c : UInt8) : Lib.indexByte l c < 0 ↔ c ∉ l := by
  induction l with
  | nil => simp [Lib.indexByte]
  | cons b l ih =>
    unfold Lib.indexByte
    have hg := Lib.indexByte_ge l c
    by_cases h : b = c
    · subst h; simp
    · rw [if_neg (by simpa using h)]
      by_cases e : Lib.indexByte l c = -1
      · rw [if_pos (by simpa using e)]
        have := ih.1 (by omega)
        simp [this, Ne.symm h]
      · rw [if_neg (by simpa using e)]
        have : ¬ c ∉ l := fun x => by have := ih.2 x; omega
        simp only [List.mem_cons, not_or]
        constructor
        · intro; omega
        · rintro ⟨_, x⟩; exact absurd x this
theorem wrap_i (i n : Nat) (h : i < n) (hn : n ≤ 9223372036854775807) : wrap64 ((i : Int) + 1) = ((i + 1 : Nat) : Int) := by unfold wrap64; omega
def Bytes (xs : List Int) : Prop := ∀ x ∈ xs, 0 ≤ x ∧ x ≤ 255
theorem Bytes.append {a b : List Int} (ha : Bytes a) (hb : Bytes b) : Bytes (a ++ b) := fun x hx => (List.mem_append.1 hx).elim (ha x) (hb x)
theorem Bytes.left {a b : List Int} (h : Bytes (a ++ b)) : Bytes a := fun x hx => h x (List.mem_append_left _ hx)
theorem Bytes.right {a b : List Int} (h : Bytes (a ++ b)) : Bytes b := fun x hx => h x (List.mem_append_right _ hx)
theorem bytesOf_Bytes (s : ByteArray) : Bytes (bytesOf s) := by
  intro x hx
  unfold bytesOf at hx
  obtain ⟨c, _, rfl⟩ := List.mem_map.1 hx
  have := c.toNat_lt
  omega
theorem rep_Bytes (n : Nat) : Bytes (List.replicate n 0) := by
  intro x hx
  have := List.eq_of_mem_replicate hx
  omega
def u8 (n : Int) : UInt8 := UInt8.ofNat n.toNat
theorem strOfNums_mk (xs : List Int) : strOfNums xs = ⟨(xs.map u8).toArray⟩ := rfl
theorem u8_zero (x : Int) (h : 0 ≤ x ∧ x ≤ 255) : u8 x = 0 ↔ x = 0 := by
  unfold u8
  obtain ⟨n, rfl⟩ := Int.eq_ofNat_of_zero_le h.1
  rw [← UInt8.toNat_inj]
  have : (0 : UInt8).toNat = 0 := rfl
  simp
  omega
theorem bytesOf_str (xs : List Int) (h : Bytes xs) : bytesOf (strOfNums xs) = xs := by
  unfold bytesOf strOfNums
  simp only [List.map_map]
  conv => rhs; rw [← List.map_id xs]
  apply List.map_congr_left
  intro x hxm
  have := h x hxm
  simp
  omega
theorem bytesOf_inj {a b : ByteArray} (h : bytesOf a = bytesOf b) : a = b := by
  apply ByteArray.ext
  apply Array.ext'
  unfold bytesOf at h
  exact List.map_inj_right (f := fun b : UInt8 => (b.toNat : Int)) (fun x y e => UInt8.toNat_inj.1 (by omega)) |>.1 h
theorem str_bytesOf (s : ByteArray) : strOfNums (bytesOf s) = s := bytesOf_inj (bytesOf_str _ (bytesOf_Bytes s))
theorem str_toList_inj (a b : List Int) (ha : Bytes a) (hb : Bytes b) : (strOfNums a).toList = (strOfNums b).toList ↔ a = b := by
  rw [ByteArray.toList_eq, ByteArray.toList_eq]
  constructor
  · intro h
    have e : strOfNums a = strOfNums b := ByteArray.ext (Array.ext' h)
    rw [← bytesOf_str a ha, ← bytesOf_str b hb, e]
  · intro h; rw [h]

theorem cut_first (l : List UInt8) (c : UInt8) : (Lib.cut l [c]).1 = l.takeWhile (· != c) := by
  have h : (if 0 ≤ Lib.index l [c] then l.take (Lib.index l [c]).toNat else l) = l.takeWhile (· != c) := by
    induction l with
    | nil => rfl
    | cons b l ih =>
      unfold Lib.index
      have hg := Lib.index_ge l [c]
      by_cases e : c = b
      · subst e
        simp
      · have e1 : [c].isPrefixOf (b :: l) = false := by simp [List.isPrefixOf, e]
        have e2 : (b != c) = true := by simpa using Ne.symm e
        rw [e1, List.takeWhile_cons, if_pos e2, ← ih]
        by_cases e3 : Lib.index l [c] = -1
        · rw [e3]; rfl
        · have e4 : (Lib.index l [c] == -1) = false := by simpa using e3
          rw [e4]
          simp only [Bool.false_eq_true, if_false]
          rw [if_pos (by omega), if_pos (by omega)]
          have e5 : (Lib.index l [c] + 1).toNat = (Lib.index l [c]).toNat + 1 := by omega
          rw [e5, List.take_succ_cons]
  unfold Lib.cut
  rw [← h]
  split <;> rfl
theorem takeWhile_u8 (l : List Int) (h : Bytes l) : (l.map u8).takeWhile (· != 0) = (l.takeWhile (· != 0)).map u8 := by
  induction l with
  | nil => rfl
  | cons x l ih =>
    have hx := u8_zero x (h x List.mem_cons_self)
    have ih := ih (fun y hy => h y (List.mem_cons_of_mem _ hy))
    rw [List.map_cons, List.takeWhile_cons, List.takeWhile_cons]
    by_cases e : x = 0
    · have e1 := hx.2 e
      rw [if_neg (by simp [e1]), if_neg (by simp [e])]
      rfl
    · have e1 : ¬ u8 x = 0 := fun y => e (hx.1 y)
      rw [if_pos (by simpa using e1), if_pos (by simpa using e), ih]
      rfl
theorem Bytes.sub {l m : List Int} (h : Bytes l) (hm : ∀ x ∈ m, x ∈ l) : Bytes m := fun x hx => h x (hm x hx)
theorem Bytes.take {l : List Int} (h : Bytes l) (n : Nat) : Bytes (l.take n) := h.sub fun x hx => List.mem_of_mem_take hx
theorem Bytes.drop {l : List Int} (h : Bytes l) (n : Nat) : Bytes (l.drop n) := h.sub fun x hx => List.mem_of_mem_drop hx
theorem xor_other (b z : Nat) (hb : b < 256) (hz : z < 256) (h0 : z ≠ 0) : bits .xor .u8 (b : Int) (z : Int) ≠ (b : Int) ∧ 0 ≤ bits .xor .u8 (b : Int) (z : Int) ∧ bits .xor .u8 (b : Int) (z : Int) ≤ 255 := by
  rw [u8_xor_nat b z hb hz]
  have : b ^^^ z < 256 := Nat.xor_lt_two_pow (n := 8) (by omega) (by omega)
  refine ⟨fun e => h0 ?_, by omega, by omega⟩
  have e2 : b ^^^ z = b ^^^ 0 := by rw [Nat.xor_zero]; omega
  exact xor_cancel_left e2
theorem wrap_one (j : Nat) (h : (j : Int) < 255) : wrap64 (1 + (j : Int)) % 256 = ((1 + j : Nat) : Int) := by
  have e0 : wrap64 (1 + (j : Int)) = 1 + (j : Int) := by unfold wrap64; omega
  rw [e0, Int.emod_eq_of_lt (by clear e0; omega) (by clear e0; omega)]
  rfl

theorem sum_set : ∀ (l : List Int) (i : Nat) (v : Int) (h : i < l.length), (l.set i v).sum = l.sum - l[i] + v
  | x :: l, 0, v, _ => by simp; omega
  | x :: l, i + 1, v, h => by
    have := sum_set l i v (by simpa using h)
    simp only [List.set_cons_succ, List.sum_cons, List.getElem_cons_succ]
    omega
theorem Bytes.set {l : List Int} (h : Bytes l) (i : Nat) (v : Int) (hv : 0 ≤ v ∧ v ≤ 255) : Bytes (l.set i v) := fun x hx => (List.mem_or_eq_of_mem_set hx).elim (h x) (fun e => e ▸ hv)

end Go.Proofs.YtidlgdpjcognpaaDoor.X

/- Contracts of the library's functions that this seat's texts call, in the printed texts' form: each over a plain Lean function. -/
namespace Go.Proofs.YtidlgdpjcognpaaDoor.X
open Go.RowKit Go.Proofs.YtidlgdpjcognpaaDoorW.PrintWords
set_option linter.unusedVariables false
set_option linter.unusedSimpArgs false

theorem and15 (v : Nat) (hv : v < 18446744073709551616) : bits .and .u64 (v : Int) 15 = ((v % 16 : Nat) : Int) := by
  have h := bits_and_u64_nat v 15 hv (by omega)
  have e : v &&& 15 = v % 16 := Nat.and_two_pow_sub_one_eq_mod v 4
  rw [e] at h
  exact h
theorem and7 (v : Nat) (hv : v < 18446744073709551616) : bits .and .u64 (v : Int) 7 = ((v % 8 : Nat) : Int) := by
  have h := bits_and_u64_nat v 7 hv (by omega)
  have e : v &&& 7 = v % 8 := Nat.and_two_pow_sub_one_eq_mod v 3
  rw [e] at h
  exact h
theorem e16 : IntKind.u64.wrap (bits BinOp.and IntKind.u64 16 (IntKind.u64.wrap (-16)) * 285870213051353865) / 288230376151711744 = 15 := by decide +kernel
theorem e8 : IntKind.u64.wrap (bits BinOp.and IntKind.u64 8 (IntKind.u64.wrap (-8)) * 285870213051353865) / 288230376151711744 = 7 := by decide +kernel

set_option maxHeartbeats 800000 in
set_option maxRecDepth 100000 in
theorem tz16 (w : World) (hc : w.cell? ⟨3, 15, none⟩ = some (.int .u8 4)) : Calls Tryd.prog 72 #[.int .u64 16] w fun e w' => e = .returned (.int .i64 4) ∧ w = w' := by
  have h := e16
  go_enter Tryd.func72, Tryd.ntmps72
  go_wp2
  go_ret
  exact ⟨rfl, rfl⟩
set_option maxHeartbeats 1600000 in
set_option maxRecDepth 100000 in
theorem fb16 (u : Nat) (hu : u < 18446744073709551616) (w : World) (hT : Tabs w) :
    Calls Tryd.prog 60 #[.slice none 0 0, .int .u64 u, .int .i64 16, .bool false, .bool false] w fun e w' => e = .returned (.tuple #[.slice none 0 0, .string ⟨(digitsOf 16 u).toArray⟩]) ∧ ∃ C, w' = w.alloc (.cells C 92) := by
  have hc := hT.t16
  have hwg : 3 < w.heap.size := World.block_lt_of_cell? w _ hc
  clear hT
  go_enter Tryd.func60, Tryd.ntmps60
  have hp : ∀ W : World, Calls Tryd.prog 71 #[.int .i64 16] W fun e w' => e = .returned (.bool true) ∧ W = w' := by
    intro W
    go_enter Tryd.func71, Tryd.ntmps71
    go_wp2
    go_ret
    exact ⟨by simp; decide, rfl⟩
  have htz : ∀ W : World, W.cell? ⟨3, 15, none⟩ = some (.int .u8 4) → Calls Tryd.prog 72 #[.int .u64 16] W fun e w' => e = .returned (.int .i64 4) ∧ W = w' := fun W h => tz16 W h
  have hcA : ∀ o, (w.alloc o).cell? ⟨3, 15, none⟩ = some (.int .u8 4) := fun o => (((Below.refl w.heap.size w).alloc (Nat.le_refl _) o).cell (p := ⟨3, 15, none⟩) hwg).trans hc
  clear hc
  go_wp2_with (first | (go_at_call 71; refine (hp _).mono ?_; rintro e w' ⟨rfl, rfl⟩) | (go_at_call 72; refine (htz _ (hcA _)).mono ?_; rintro e w' ⟨rfl, rfl⟩))
  clear hp htz hcA
  go_loopw [1, 13] (fun vu vi wr => ∃ (v i : Nat) (C : Array Value) (ds : List UInt8), vu = .int .u64 v ∧ vi = .int .i64 i ∧ Hid (wr = w.alloc (.cells C 92)) ∧ Hid (Box C ds) ∧ i ≤ 65 ∧ Hid (i + ds.length = 65) ∧ v < 18446744073709551616 ∧ Hid (ds.length ≤ 64) ∧ Hid (v * 2 ^ ds.length ≤ u) ∧ Hid (digitsOf 16 u = digitsOf 16 v ++ ds)) (fun vu _ _ => (intOf vu).toNat)
  case atStart =>
    refine ⟨u, 65, _, [], rfl, rfl, rfl, ?_, by omega, rfl, hu, by show [].length ≤ 64; simp, ?_, ?_⟩
    · refine ⟨rfl, by simp, fun j hj => ⟨0, ?_⟩, fun j hj => absurd hj (by simp)⟩
      have e : Tryd.zeroCells92 = Array.replicate 65 (.int .u8 0) := rfl
      rw [e]; simp [hj]
    · show u * 2 ^ 0 ≤ u; omega
    · show _ = _ ++ []; simp
  case round =>
    obtain ⟨v, i, C, ds, rfl, rfl, hW, hB, hi, hl, hv, hn, hm, hd⟩ := hrel
    obtain rfl := hW
    have h15 := and15 v hv
    by_cases hlt : 16 ≤ v
    · have hr := room_ u v ds.length hu hm.out (by omega)
      have hi1 : 1 ≤ i := by have := hl.out; omega
      obtain ⟨z, hz⟩ := hB.out.old (i - 1) (by omega)
      have hcell : (w.alloc (.cells C 92)).cell? ⟨w.heap.size, i - 1, none⟩ = some (.int .u8 z) := by simp [World.cell?, World.alloc, -World.alloc_eq, hz]
      clear hz
      go_wp2
      have e1 : i - 1 = 64 - ds.length := by have := hl.out; omega
      have e2 : (↑v : Int) / 16 = ((v / 16 : Nat) : Int) := by omega
      refine ⟨⟨v / 16, i - 1, _, dch (v % 16) :: ds, by rw [e2], by congr 1; omega, rfl, ?_, by omega, ?_, by omega, by show (dch (v % 16) :: ds).length ≤ 64; simp only [List.length_cons]; omega, ?_, ?_⟩, by simp [intOf]; omega⟩
      · have hk : v % 16 < digs.size := by have : digs.size = 36 := rfl; omega
        have hd2 := digs_at (v % 16) (by omega) hk
        rw [e1, ← hd2]
        exact box_put hB.out (by omega) (digs[v % 16])
      · show i - 1 + (ds.length + 1) = 65
        have := hl.out; omega
      · show v / 16 * 2 ^ (ds.length + 1) ≤ u
        have := hm.out
        have h2 : v / 16 * 2 ^ (ds.length + 1) = (v / 16 * 2) * 2 ^ ds.length := by rw [Nat.pow_succ, Nat.mul_comm (2 ^ ds.length) 2, Nat.mul_assoc]
        rw [h2]
        exact Nat.le_trans (Nat.mul_le_mul_right _ (by omega)) this
      · show digitsOf 16 u = _
        rw [hd.out, digitsOf_ge hlt (by omega), List.append_assoc]; rfl
    · have hr := hn.out
      have hi1 : 1 ≤ i := by have := hl.out; omega
      obtain ⟨z, hz⟩ := hB.out.old (i - 1) (by omega)
      have hcell : (w.alloc (.cells C 92)).cell? ⟨w.heap.size, i - 1, none⟩ = some (.int .u8 z) := by simp [World.cell?, World.alloc, -World.alloc_eq, hz]
      clear hz
      have hsl : ∀ W, (Instr.sliceAt 92 (.pointer (some ⟨w.heap.size, 0, none⟩)) (some (.int .i64 (↑i - 1))) none none).run Tryd.prog W = .ok (.slice (some ⟨w.heap.size, i - 1, none⟩) (ds.length + 1) (ds.length + 1)) W := by
        intro W
        have hal : Tryd.prog.arrayLen 92 = 65 := by simp [Program.arrayLen, Tryd.underlying92]
        rw [run_sliceAt_array_l W 92 ⟨w.heap.size, 0, none⟩ (by simp [Program.arrayLen, Program.elem, Tryd.underlying92]) .i64 (↑i - 1) (by omega) (by rw [hal]; omega), hal]
        have hel : Tryd.prog.elem 92 = 5 := by simp [Program.elem, Tryd.underlying92]
        have e2 : ((i : Int) - 1).toNat = i - 1 := by omega
        have hne : ¬ (65 = i - 1) := by omega
        simp only [hel, e2, slicedAt, if_neg hne]
        have hl := hl.out
        have ha : (⟨w.heap.size, 0, none⟩ : Addr).add (i - 1) = ⟨w.heap.size, i - 1, none⟩ := by unfold Addr.add; split <;> simp_all
        have h3 : 65 - (i - 1) = ds.length + 1 := by omega
        go_simp
      have e1 : i - 1 = 64 - ds.length := by have := hl.out; omega
      have hb2 := box_put hB.out (by omega) (dch v)
      have hk : v < digs.size := by have : digs.size = 36 := rfl; omega
      have hdv : digs[v] = dch v := digs_at v (by omega) hk
      rw [← hdv, ← e1] at hb2
      have hcv := run_convert_bytes_back (P := Tryd.prog) (w.alloc (.cells (C.setIfInBounds (i - 1) (.int .u8 (digs[v].toNat : Int))) 92)) 22 9 5 ⟨w.heap.size, i - 1, none⟩ (ds.length + 1) (digs[v] :: ds) Tryd.underlying22 Tryd.underlying5 Tryd.underlying9 (fun j hj => by
        have h1 := hb2.new j hj
        have ha : (⟨w.heap.size, i - 1, none⟩ : Addr).add j = ⟨w.heap.size, i - 1 + j, none⟩ := by unfold Addr.add; split <;> simp_all
        have h2 : 65 - (digs[v] :: ds).length + j = i - 1 + j := by simp only [List.length_cons]; have := hl.out; omega
        rw [ha]
        rw [h2] at h1
        simp [World.cell?, World.alloc, -World.alloc_eq, h1])
      have HD := Lib.hid hdv
      have HB2 := Lib.hid hb2
      clear hdv hb2
      simp only [List.length_cons] at hcv
      clear e1
      go_wp2
      go_ret2
      refine ⟨?_, _, rfl⟩
      rw [hd.out, digitsOf_lt (by omega)]
      have := HD.out
      simp [← this]
set_option maxHeartbeats 1600000 in
theorem fu16 (u : Nat) (hu : u < 18446744073709551616) (w : World) (hT : Tabs w) : Calls Tryd.prog 47 #[.int .u64 u, .int .i64 16] w fun e w' => e = .returned (.string ⟨(digitsOf 16 u).toArray⟩) ∧ Below w.heap.size w w' := by
  have HT := Lib.hid hT
  clear hT
  go_enter Tryd.func47, Tryd.ntmps47
  go_wp2_with (go_at_call 60; refine (fb16 u hu _ HT.out).mono ?_; rintro e w' ⟨rfl, C, rfl⟩)
  go_ret
  exact ⟨rfl, (Below.refl _ _).alloc (Nat.le_refl _) _⟩
set_option maxHeartbeats 1600000 in
theorem fi16 (u : Nat) (hu : u < 9223372036854775808) (w : World) (hT : Tabs w) : Calls Tryd.prog 54 #[.int .i64 u, .int .i64 16] w fun e w' => e = .returned (.string ⟨(digitsOf 16 u).toArray⟩) ∧ Below w.heap.size w w' := by
  have HT := Lib.hid hT
  clear hT
  go_enter Tryd.func54, Tryd.ntmps54
  go_wp2_with (go_at_call 60; refine (fb16 u (by omega) _ HT.out).mono ?_; rintro e w' ⟨rfl, C, rfl⟩)
  go_ret
  exact ⟨rfl, (Below.refl _ _).alloc (Nat.le_refl _) _⟩

/-! ### strconv.FormatUint at base 16 -/
def strconv_FormatUint.f (a0 a1 : Int) : Option ByteArray := if 0 ≤ a0 ∧ a0 < 18446744073709551616 ∧ a1 = 16 then some ⟨(digitsOf 16 a0.toNat).toArray⟩ else none
set_option maxHeartbeats 1600000 in
theorem strconv_FormatUint.calls (a0 a1 : Int) (r : ByteArray) (w : World) (hT : Aside0 (Tabs w)) (h : strconv_FormatUint.f a0 a1 = some r) :
    Calls Tryd.prog 34 #[.int .u64 a0, .int .i64 a1] w fun e w' => e = .returned (.string r) ∧ Below w.heap.size w w' := by
  unfold strconv_FormatUint.f at h
  split at h
  · rename_i hc
    obtain ⟨h0, h1, rfl⟩ := hc
    obtain ⟨n, rfl⟩ := Int.eq_ofNat_of_zero_le h0
    cases h
    simp only [Int.toNat_natCast]
    have hn : n < 18446744073709551616 := by omega
    clear h0 h1
    go_enter Tryd.func34, Tryd.ntmps34
    go_wp2_with (go_at_call 47; refine (fu16 n hn _ hT.out).mono ?_; rintro e w' ⟨rfl, hb⟩)
    go_ret
    exact ⟨rfl, hb⟩
  · cases h

set_option maxHeartbeats 800000 in
set_option maxRecDepth 100000 in
theorem tz8 (w : World) (hc : w.cell? ⟨3, 7, none⟩ = some (.int .u8 3)) : Calls Tryd.prog 72 #[.int .u64 8] w fun e w' => e = .returned (.int .i64 3) ∧ w = w' := by
  have h := e8
  go_enter Tryd.func72, Tryd.ntmps72
  go_wp2
  go_ret
  exact ⟨rfl, rfl⟩
set_option maxHeartbeats 1600000 in
set_option maxRecDepth 100000 in
theorem fb8 (u : Nat) (hu : u < 18446744073709551616) (w : World) (hT : Tabs w) :
    Calls Tryd.prog 60 #[.slice none 0 0, .int .u64 u, .int .i64 8, .bool false, .bool false] w fun e w' => e = .returned (.tuple #[.slice none 0 0, .string ⟨(digitsOf 8 u).toArray⟩]) ∧ ∃ C, w' = w.alloc (.cells C 92) := by
  have hc := hT.t8
  have hwg : 3 < w.heap.size := World.block_lt_of_cell? w _ hc
  clear hT
  go_enter Tryd.func60, Tryd.ntmps60
  have hp : ∀ W : World, Calls Tryd.prog 71 #[.int .i64 8] W fun e w' => e = .returned (.bool true) ∧ W = w' := by
    intro W
    go_enter Tryd.func71, Tryd.ntmps71
    go_wp2
    go_ret
    exact ⟨by simp; decide, rfl⟩
  have htz : ∀ W : World, W.cell? ⟨3, 7, none⟩ = some (.int .u8 3) → Calls Tryd.prog 72 #[.int .u64 8] W fun e w' => e = .returned (.int .i64 3) ∧ W = w' := fun W h => tz8 W h
  have hcA : ∀ o, (w.alloc o).cell? ⟨3, 7, none⟩ = some (.int .u8 3) := fun o => (((Below.refl w.heap.size w).alloc (Nat.le_refl _) o).cell (p := ⟨3, 7, none⟩) hwg).trans hc
  clear hc
  go_wp2_with (first | (go_at_call 71; refine (hp _).mono ?_; rintro e w' ⟨rfl, rfl⟩) | (go_at_call 72; refine (htz _ (hcA _)).mono ?_; rintro e w' ⟨rfl, rfl⟩))
  clear hp htz hcA
  go_loopw [1, 13] (fun vu vi wr => ∃ (v i : Nat) (C : Array Value) (ds : List UInt8), vu = .int .u64 v ∧ vi = .int .i64 i ∧ Hid (wr = w.alloc (.cells C 92)) ∧ Hid (Box C ds) ∧ i ≤ 65 ∧ Hid (i + ds.length = 65) ∧ v < 18446744073709551616 ∧ Hid (ds.length ≤ 64) ∧ Hid (v * 2 ^ ds.length ≤ u) ∧ Hid (digitsOf 8 u = digitsOf 8 v ++ ds)) (fun vu _ _ => (intOf vu).toNat)
  case atStart =>
    refine ⟨u, 65, _, [], rfl, rfl, rfl, ?_, by omega, rfl, hu, by show [].length ≤ 64; simp, ?_, ?_⟩
    · refine ⟨rfl, by simp, fun j hj => ⟨0, ?_⟩, fun j hj => absurd hj (by simp)⟩
      have e : Tryd.zeroCells92 = Array.replicate 65 (.int .u8 0) := rfl
      rw [e]; simp [hj]
    · show u * 2 ^ 0 ≤ u; omega
    · show _ = _ ++ []; simp
  case round =>
    obtain ⟨v, i, C, ds, rfl, rfl, hW, hB, hi, hl, hv, hn, hm, hd⟩ := hrel
    obtain rfl := hW
    have h15 := and7 v hv
    by_cases hlt : 8 ≤ v
    · have hr := room_ u v ds.length hu hm.out (by omega)
      have hi1 : 1 ≤ i := by have := hl.out; omega
      obtain ⟨z, hz⟩ := hB.out.old (i - 1) (by omega)
      have hcell : (w.alloc (.cells C 92)).cell? ⟨w.heap.size, i - 1, none⟩ = some (.int .u8 z) := by simp [World.cell?, World.alloc, -World.alloc_eq, hz]
      clear hz
      go_wp2
      have e1 : i - 1 = 64 - ds.length := by have := hl.out; omega
      have e2 : (↑v : Int) / 8 = ((v / 8 : Nat) : Int) := by omega
      refine ⟨⟨v / 8, i - 1, _, dch (v % 8) :: ds, by rw [e2], by congr 1; omega, rfl, ?_, by omega, ?_, by omega, by show (dch (v % 8) :: ds).length ≤ 64; simp only [List.length_cons]; omega, ?_, ?_⟩, by simp [intOf]; omega⟩
      · have hk : v % 8 < digs.size := by have : digs.size = 36 := rfl; omega
        have hd2 := digs_at (v % 8) (by omega) hk
        rw [e1, ← hd2]
        exact box_put hB.out (by omega) (digs[v % 8])
      · show i - 1 + (ds.length + 1) = 65
        have := hl.out; omega
      · show v / 8 * 2 ^ (ds.length + 1) ≤ u
        have := hm.out
        have h2 : v / 8 * 2 ^ (ds.length + 1) = (v / 8 * 2) * 2 ^ ds.length := by rw [Nat.pow_succ, Nat.mul_comm (2 ^ ds.length) 2, Nat.mul_assoc]
        rw [h2]
        exact Nat.le_trans (Nat.mul_le_mul_right _ (by omega)) this
      · show digitsOf 8 u = _
        rw [hd.out, digitsOf_ge hlt (by omega), List.append_assoc]; rfl
    · have hr := hn.out
      have hi1 : 1 ≤ i := by have := hl.out; omega
      obtain ⟨z, hz⟩ := hB.out.old (i - 1) (by omega)
      have hcell : (w.alloc (.cells C 92)).cell? ⟨w.heap.size, i - 1, none⟩ = some (.int .u8 z) := by simp [World.cell?, World.alloc, -World.alloc_eq, hz]
      clear hz
      have hsl : ∀ W, (Instr.sliceAt 92 (.pointer (some ⟨w.heap.size, 0, none⟩)) (some (.int .i64 (↑i - 1))) none none).run Tryd.prog W = .ok (.slice (some ⟨w.heap.size, i - 1, none⟩) (ds.length + 1) (ds.length + 1)) W := by
        intro W
        have hal : Tryd.prog.arrayLen 92 = 65 := by simp [Program.arrayLen, Tryd.underlying92]
        rw [run_sliceAt_array_l W 92 ⟨w.heap.size, 0, none⟩ (by simp [Program.arrayLen, Program.elem, Tryd.underlying92]) .i64 (↑i - 1) (by omega) (by rw [hal]; omega), hal]
        have hel : Tryd.prog.elem 92 = 5 := by simp [Program.elem, Tryd.underlying92]
        have e2 : ((i : Int) - 1).toNat = i - 1 := by omega
        have hne : ¬ (65 = i - 1) := by omega
        simp only [hel, e2, slicedAt, if_neg hne]
        have hl := hl.out
        have ha : (⟨w.heap.size, 0, none⟩ : Addr).add (i - 1) = ⟨w.heap.size, i - 1, none⟩ := by unfold Addr.add; split <;> simp_all
        have h3 : 65 - (i - 1) = ds.length + 1 := by omega
        go_simp
      have e1 : i - 1 = 64 - ds.length := by have := hl.out; omega
      have hb2 := box_put hB.out (by omega) (dch v)
      have hk : v < digs.size := by have : digs.size = 36 := rfl; omega
      have hdv : digs[v] = dch v := digs_at v (by omega) hk
      rw [← hdv, ← e1] at hb2
      have hcv := run_convert_bytes_back (P := Tryd.prog) (w.alloc (.cells (C.setIfInBounds (i - 1) (.int .u8 (digs[v].toNat : Int))) 92)) 22 9 5 ⟨w.heap.size, i - 1, none⟩ (ds.length + 1) (digs[v] :: ds) Tryd.underlying22 Tryd.underlying5 Tryd.underlying9 (fun j hj => by
        have h1 := hb2.new j hj
        have ha : (⟨w.heap.size, i - 1, none⟩ : Addr).add j = ⟨w.heap.size, i - 1 + j, none⟩ := by unfold Addr.add; split <;> simp_all
        have h2 : 65 - (digs[v] :: ds).length + j = i - 1 + j := by simp only [List.length_cons]; have := hl.out; omega
        rw [ha]
        rw [h2] at h1
        simp [World.cell?, World.alloc, -World.alloc_eq, h1])
      have HD := Lib.hid hdv
      have HB2 := Lib.hid hb2
      clear hdv hb2
      simp only [List.length_cons] at hcv
      clear e1
      go_wp2
      go_ret2
      refine ⟨?_, _, rfl⟩
      rw [hd.out, digitsOf_lt (by omega)]
      have := HD.out
      simp [← this]
set_option maxHeartbeats 1600000 in
theorem fu8 (u : Nat) (hu : u < 18446744073709551616) (w : World) (hT : Tabs w) : Calls Tryd.prog 47 #[.int .u64 u, .int .i64 8] w fun e w' => e = .returned (.string ⟨(digitsOf 8 u).toArray⟩) ∧ Below w.heap.size w w' := by
  have HT := Lib.hid hT
  clear hT
  go_enter Tryd.func47, Tryd.ntmps47
  go_wp2_with (go_at_call 60; refine (fb8 u hu _ HT.out).mono ?_; rintro e w' ⟨rfl, C, rfl⟩)
  go_ret
  exact ⟨rfl, (Below.refl _ _).alloc (Nat.le_refl _) _⟩
set_option maxHeartbeats 1600000 in
theorem fi8 (u : Nat) (hu : u < 9223372036854775808) (w : World) (hT : Tabs w) : Calls Tryd.prog 54 #[.int .i64 u, .int .i64 8] w fun e w' => e = .returned (.string ⟨(digitsOf 8 u).toArray⟩) ∧ Below w.heap.size w w' := by
  have HT := Lib.hid hT
  clear hT
  go_enter Tryd.func54, Tryd.ntmps54
  go_wp2_with (go_at_call 60; refine (fb8 u (by omega) _ HT.out).mono ?_; rintro e w' ⟨rfl, C, rfl⟩)
  go_ret
  exact ⟨rfl, (Below.refl _ _).alloc (Nat.le_refl _) _⟩

/-! ### strconv.FormatInt at bases 8 and 10 -/
def strconv_FormatInt.f (a0 a1 : Int) : Option ByteArray :=
  if 0 ≤ a0 ∧ a0 < 9223372036854775808 ∧ a1 = 8 then some ⟨(digitsOf 8 a0.toNat).toArray⟩
  else if -9223372036854775808 ≤ a0 ∧ a0 ≤ 9223372036854775807 ∧ a1 = 10 then some ⟨(Lib.itoa a0).toArray⟩ else none
set_option maxHeartbeats 1600000 in
theorem strconv_FormatInt.calls (a0 a1 : Int) (r : ByteArray) (w : World) (hT : Aside0 (Tabs w)) (h : strconv_FormatInt.f a0 a1 = some r) :
    Calls Tryd.prog 36 #[.int .i64 a0, .int .i64 a1] w fun e w' => e = .returned (.string r) ∧ Below w.heap.size w w' := by
  unfold strconv_FormatInt.f at h
  split at h
  · rename_i hc
    obtain ⟨h0, h1, rfl⟩ := hc
    obtain ⟨n, rfl⟩ := Int.eq_ofNat_of_zero_le h0
    cases h
    simp only [Int.toNat_natCast]
    have hn : n < 9223372036854775808 := by omega
    clear h0 h1
    go_enter Tryd.func36, Tryd.ntmps36
    go_wp2_with (go_at_call 54; refine (fi8 n hn _ hT.out).mono ?_; rintro e w' ⟨rfl, hb⟩)
    go_ret
    exact ⟨rfl, hb⟩
  · split at h
    · rename_i hc
      obtain ⟨h0, h1, rfl⟩ := hc
      cases h
      exact (Tryd.strconv_FormatInt_10 a0 h0 h1 w hT.out.pow).mono fun e w' ⟨he, k, os, hw⟩ => ⟨he, by rw [hw]; exact Lib.below_grow _ w (Nat.le_refl _) k os⟩
    · cases h

/-! ### strings.Repeat -/
def strings_Repeat.f (a0 : ByteArray) (a1 : Int) : Option ByteArray := if 0 ≤ a1 ∧ a1 ≤ 9223372036854775807 ∧ a0.size * a1.toNat ≤ 140737488355328 then some ⟨(Lib.repeatL a0.data.toList a1.toNat).toArray⟩ else none
theorem strings_Repeat.calls (a0 : ByteArray) (a1 : Int) (r : ByteArray) (w : World) (h : strings_Repeat.f a0 a1 = some r) :
    Calls Tryd.prog 35 #[.string a0, .int .i64 a1] w fun e w' => e = .returned (.string r) ∧ Below w.heap.size w w' := by
  unfold strings_Repeat.f at h
  split at h
  · rename_i hc
    obtain ⟨h0, h1, h2⟩ := hc
    obtain ⟨n, rfl⟩ := Int.eq_ofNat_of_zero_le h0
    cases h
    exact Tryd.strings_Repeat a0 n w (by omega) h2
  · cases h

/-! ### strings.IndexByte -/
def strings_IndexByte.f (a0 : ByteArray) (a1 : Int) : Option Int := some (Lib.indexByte a0.data.toList a1.toNat.toUInt8)
theorem strings_IndexByte.calls (a0 : ByteArray) (a1 : Int) (r : Int) (w : World) (h : strings_IndexByte.f a0 a1 = some r) :
    Calls Tryd.prog 66 #[.string a0, .int .u8 a1] w fun e w' => e = .returned (.int .i64 r) ∧ Drawn0 w w' := by
  cases h
  exact (Tryd.strings_IndexByte a0 a1 w).mono fun e w' ⟨he, hw⟩ => ⟨he, by rw [hw]; exact Drawn0.refl _⟩

/-! ### strings.Cut -/
def strings_Cut.f (a0 a1 : ByteArray) : Option (ByteArray × ByteArray × Bool) :=
  if a0.size < 4294967281 then some (⟨(Lib.cut a0.data.toList a1.data.toList).1.toArray⟩, ⟨(Lib.cut a0.data.toList a1.data.toList).2.1.toArray⟩, (Lib.cut a0.data.toList a1.data.toList).2.2) else none
theorem strings_Cut.calls (a0 a1 : ByteArray) (r1 r2 : ByteArray) (r3 : Bool) (w : World) (hT : Aside0 (Tabs w)) (h : strings_Cut.f a0 a1 = some (r1, r2, r3)) :
    Calls Tryd.prog 56 #[.string a0, .string a1] w fun e w' => e = .returned (.tuple #[.string r1, .string r2, .bool r3]) ∧ Drawn0 w w' := by
  unfold strings_Cut.f at h
  split at h
  · rename_i hc
    obtain ⟨m, hm⟩ := hT.out.maxl
    simp only [Option.some.injEq, Prod.mk.injEq] at h
    obtain ⟨rfl, rfl, rfl⟩ := h
    exact (Tryd.strings_Cut a0 a1 m w hc hm).mono fun e w' ⟨he, n, hw⟩ => ⟨he, ⟨n, hw⟩⟩
  · cases h
end Go.Proofs.YtidlgdpjcognpaaDoor.X

-- written by xprint.py (the kit's print.py, turned), out of the translation; Lean checks it.
namespace Go.Proofs.YtidlgdpjcognpaaDoor.P
open Go.Proofs.YtidlgdpjcognpaaDoor.X
open Go.RowKit Go.Proofs.YtidlgdpjcognpaaDoorW.PrintWords Go.Proofs.YtidlgdpjcognpaaDoorW.PrintLast Go.Proofs.YtidlgdpjcognpaaDoorW.PrintMore
attribute [local go_sem] max2_int min2_int max_two min_two max_three min_three max_four min_four   -- for this text's walks alone
set_option linter.unusedVariables false
set_option linter.unusedSimpArgs false



def errW : Option Int → Value
  | none => .nilIface
  | some c => .iface 0 (.int .i64 c)
theorem errW_none : errW none = .nilIface := rfl
theorem errW_some (c : Int) : errW (some c) = .iface 0 (.int .i64 c) := rfl

theorem info5 : (Tryd.prog.info? 5).map (fun i => (i.zero, i.size, i.bytes)) = some (some (.int .u8 0), 1, 1) := by kernel_rfl
theorem info9 : (Tryd.prog.info? 9).map (fun i => (i.zero, i.size, i.bytes)) = some (some (.string ⟨#[]⟩), 1, 16) := by kernel_rfl
-- the values' own types
def rd_L1 (xs : List (List Int)) (i : Int) : (List Int) := xs.getD i.toNat ([] : List Int)
theorem at_L1 {w : World} {A : Option Addr} {n : Nat} {xs : List (List Int)} (h : Kd.C (Kd.slice 5 (Kd.int .u8)) w A n xs) (i : Int) (h0 : 0 ≤ i) (h1 : i < n) : ∃ ad A0 c0, A = some ad ∧ w.cell? (ad.add i.toNat) = some (.slice A0 (rd_L1 xs i).length c0) ∧ (rd_L1 xs i).length ≤ c0 ∧ (Kd.int .u8).C w A0 (rd_L1 xs i).length (rd_L1 xs i) := by
  obtain ⟨ad, c, e, _, hK, hc0⟩ := Kd.C_get h ([] : List Int) i h0 h1
  have hc : ∀ j u, c[j]? = some u → w.cell? (ad.add (i.toNat * 1 + j)) = some u := hc0
  obtain ⟨A0, c0, rfl, l0, g0⟩ := hK
  exact ⟨ad, A0, c0, e, by have hq := hc 0 _ rfl; rwa [Nat.mul_one, Nat.add_zero] at hq, l0, g0⟩

end Go.Proofs.YtidlgdpjcognpaaDoor.P

-- written by xprint.py (the kit's print.py, turned), out of the translation; Lean checks it.
namespace Go.Proofs.YtidlgdpjcognpaaDoor.P
open Go.Proofs.YtidlgdpjcognpaaDoor.X
open Go.RowKit Go.Proofs.YtidlgdpjcognpaaDoorW.PrintWords Go.Proofs.YtidlgdpjcognpaaDoorW.PrintLast Go.Proofs.YtidlgdpjcognpaaDoorW.PrintMore
attribute [local go_sem] max2_int min2_int max_two min_two max_three min_three max_four min_four   -- for this text's walks alone
set_option linter.unusedVariables false
set_option linter.unusedSimpArgs false

/-! ### head_Octal: function 24 -/
def head_Octal.j0 : Nat → Int → Int → Bool → Option (ByteArray × Bool)
  | 0, _, _, _ => none
  | k + 1, x0, x1, x16 => if x16 = true then (some ((⟨#[]⟩ : ByteArray), false)) else ((strconv_FormatInt.f x0 8).bind fun t154 => (if (t154.size : Int) > x1 then (some ((⟨#[]⟩ : ByteArray), false)) else ((strings_Repeat.f (⟨#[48]⟩ : ByteArray) (wrap64 (x1 - (t154.size : Int)))).bind fun t155 => (if t155.size + t154.size ≤ 9223372036854775807 then (some (t155 ++ t154, true)) else (none)))))
def head_Octal.f (k : Nat) (a0 : Int) (a1 : Int) : Option (ByteArray × Bool) := if a0 < 0 then (head_Octal.j0 k a0 a1 true) else (if a1 < 1 then (head_Octal.j0 k a0 a1 true) else (head_Octal.j0 k a0 a1 (decide (a1 > 11))))
theorem head_Octal.mono_l : ∀ k, (∀ y0 y1 y2, LeO (head_Octal.j0 k y0 y1 y2) (head_Octal.j0 (k + 1) y0 y1 y2))
  | 0 => fun _ _ _ r h => by simp [head_Octal.j0] at h
  | k + 1 => by
    have ih0 := head_Octal.mono_l k
    · intro y0 y1 y2
      unfold head_Octal.j0
      repeat' first
      | (with_reducible exact ih0 _ _ _)
      | (with_reducible exact LeO.refl _)
      | (with_reducible exact LeO.none _)
      | (with_reducible refine LeO.ite ?_ ?_)
      | (with_reducible refine LeO.bind ?_ (fun _ => ?_))
      | exact ih0 _ _ _
      | exact LeO.none _
      | refine LeO.ite ?_ ?_
      | refine LeO.bind ?_ (fun _ => ?_)
theorem head_Octal.mono : ∀ a0 a1 k, LeO (head_Octal.f k a0 a1) (head_Octal.f (k + 1) a0 a1) := by
  intro a0 a1 k
  have ih0 := head_Octal.mono_l k
  unfold head_Octal.f
  repeat' first
      | (with_reducible exact ih0 _ _ _)
      | (with_reducible exact LeO.refl _)
      | (with_reducible exact LeO.none _)
      | (with_reducible refine LeO.ite ?_ ?_)
      | (with_reducible refine LeO.bind ?_ (fun _ => ?_))
      | exact ih0 _ _ _
      | exact LeO.none _
      | refine LeO.ite ?_ ?_
      | refine LeO.bind ?_ (fun _ => ?_)
set_option maxHeartbeats 8000000 in
set_option maxRecDepth 100000 in
theorem head_Octal.calls (k : Nat) (a0 : Int) (a1 : Int) (r1 : ByteArray) (r2 : Bool) (w : World) (hT : Aside0 (Tabs w)) (h : head_Octal.f k a0 a1 = some (r1, r2)) :
    Calls Tryd.prog 24 #[.int .i64 a0, .int .i64 a1] w fun e w' => e = .returned (.tuple #[.string r1, .bool r2]) ∧ Below w.heap.size w w' := by
  have HB := Aside0.mk (Below.refl w.heap.size w)
  have H : (if a0 < 0 then (head_Octal.j0 k a0 a1 true) else (if a1 < 1 then (head_Octal.j0 k a0 a1 true) else (head_Octal.j0 k a0 a1 (decide (a1 > 11))))) = some (r1, r2) := h
  clear h
  have HC3 := Aside0.mk H
  clear H
  go_enter Tryd.func24, Tryd.ntmps24
  go_upto_region 1 with (fail)
  go_cut [16] (fun v16 wc => ∃ (kq : Nat) (x16_2 : Bool), v16 = .bool x16_2 ∧ Aside0 (head_Octal.j0 kq a0 a1 x16_2 = some (r1, r2)) ∧ Aside0 (kq ≤ k) ∧ Aside0 (Below w.heap.size w wc))
  case first =>
    have H := HC3.out
    clear HC3
    by_cases c4 : a0 < 0
    · rw [if_pos c4] at H
      have c4b0 : decide (a0 < 0) = true := decide_eq_true c4
      clear c4
      (first | rw [c4b0] | (simp only [i64_w, i32_w]; rw [c4b0]) | skip)
      have H' := Aside0.mk H
      clear H
      go_wp2
      go_meet
      case rel => exact ⟨_, (true), (by first | rfl | (simp; done) | (simp [*]; done)), H', ⟨by first | omega | exact Nat.le_refl _⟩, ⟨by repeat (first | (with_reducible first | exact HB.out | apply below_alloc | apply pw_below_drewN | apply below_drew1) | exact HB.out)⟩⟩
    · rw [if_neg c4] at H
      have c4b0 : decide (a0 < 0) = false := decide_eq_false c4
      clear c4
      (first | rw [c4b0] | (simp only [i64_w, i32_w]; rw [c4b0]) | skip)
      by_cases c5 : a1 < 1
      · rw [if_pos c5] at H
        have c5b0 : decide (a1 < 1) = true := decide_eq_true c5
        clear c5
        have H' := Aside0.mk H
        clear H
        go_wp2
        go_meet
        case rel => exact ⟨_, (true), (by first | rfl | (simp; done) | (simp [*]; done)), H', ⟨by first | omega | exact Nat.le_refl _⟩, ⟨by repeat (first | (with_reducible first | exact HB.out | apply below_alloc | apply pw_below_drewN | apply below_drew1) | exact HB.out)⟩⟩
      · rw [if_neg c5] at H
        have c5b0 : decide (a1 < 1) = false := decide_eq_false c5
        clear c5
        have H' := Aside0.mk H
        clear H
        go_wp2
        go_meet
        case rel => exact ⟨_, (decide (a1 > 11)), (by first | rfl | (simp; done) | (simp [*]; done)), H', ⟨by first | omega | exact Nat.le_refl _⟩, ⟨by repeat (first | (with_reducible first | exact HB.out | apply below_alloc | apply pw_below_drewN | apply below_drew1) | exact HB.out)⟩⟩
  case rest =>
    clear HC3
    try clear c2
    try clear p2
    try clear c4
    try clear c4b0
    try clear c5
    try clear c5b0
    obtain ⟨kq, x16_2, rfl, HA, HJ2, HB⟩ := hcut
    cases kq with
    | zero => exact absurd HA.out (by simp [head_Octal.j0])
    | succ kj2 =>
      have H := HA.out
      clear HA
      simp only [head_Octal.j0] at H
      by_cases c6 : x16_2 = true
      · subst c6
        have H1 : (some ((⟨#[]⟩ : ByteArray), false)) = some (r1, r2) := by rw [if_pos rfl] at H; exact H
        clear H
        have H := H1
        clear H1
        simp only [Option.some.injEq, Prod.mk.injEq] at H
        obtain ⟨rfl, rfl⟩ := H
        go_wp2
        go_ret2
        exact ⟨by first | rfl | (simp [errW_none, errW_some] <;> rfl) | (simp [*, errW_none, errW_some] <;> rfl), by repeat (first | (with_reducible first | exact HB.out | apply below_alloc | apply pw_below_drewN | apply below_drew1) | exact HB.out)⟩
      · replace c6 := Bool.eq_false_iff.mpr c6
        subst c6
        have H1 : ((strconv_FormatInt.f a0 8).bind fun t154 => (if (t154.size : Int) > a1 then (some ((⟨#[]⟩ : ByteArray), false)) else ((strings_Repeat.f (⟨#[48]⟩ : ByteArray) (wrap64 (a1 - (t154.size : Int)))).bind fun t155 => (if t155.size + t154.size ≤ 9223372036854775807 then (some (t155 ++ t154, true)) else (none))))) = some (r1, r2) := by rw [if_neg (show ¬ (false = true) by decide)] at H; exact H
        clear H
        have H := H1
        clear H1
        replace H := Option.bind_eq_some_iff.mp H
        obtain ⟨t154, A70, H⟩ := H
        replace H : (if (t154.size : Int) > a1 then (some ((⟨#[]⟩ : ByteArray), false)) else ((strings_Repeat.f (⟨#[48]⟩ : ByteArray) (wrap64 (a1 - (t154.size : Int)))).bind fun t155 => (if t155.size + t154.size ≤ 9223372036854775807 then (some (t155 ++ t154, true)) else (none)))) = some (r1, r2) := H
        have A7 := Aside0.mk A70
        clear A70
        by_cases c8 : (t154.size : Int) > a1
        · rw [if_pos c8] at H
          have c8b0 : decide (a1 < (t154.size : Int)) = true := decide_eq_true c8
          clear c8
          simp only [Option.some.injEq, Prod.mk.injEq] at H
          obtain ⟨rfl, rfl⟩ := H
          go_wp2_with (first | ((with_reducible refine gate_callee (f := 36) rfl ?_); refine goesL_ (some 18) rfl rfl Tryd.func36 (by kernel_rfl) rfl #[.int .i64 a0, .int .i64 8] rfl (by (try simp only [List.map_toArray, List.map_cons, List.map_nil]); first | done | rfl | (simp only [List.length_drop, List.length_take]; rfl)) ?_; (with_reducible refine (strconv_FormatInt.calls a0 8 t154 _ ?side1 A7.out).mono ?_); (case side1 => exact ⟨Tabs.below hT.out (by repeat (first | (with_reducible first | exact HB.out | apply below_alloc | apply pw_below_drewN | apply below_drew1) | exact HB.out))⟩); rintro e w9 ⟨rfl, hb⟩; refine ⟨_, rfl, ?_⟩; have n0_ := Aside0.mk (below_step (by repeat (first | (with_reducible first | exact HB.out | apply below_alloc | apply pw_below_drewN | apply below_drew1) | exact HB.out)) hb); clear HB; have HB := n0_; clear n0_; (try clear hb); (try clear hb2); (try clear hk); (try clear hi)))
          go_ret2
          exact ⟨by first | rfl | (simp [errW_none, errW_some] <;> rfl) | (simp [*, errW_none, errW_some] <;> rfl), by repeat (first | (with_reducible first | exact HB.out | apply below_alloc | apply pw_below_drewN | apply below_drew1) | exact HB.out)⟩
        · rw [if_neg c8] at H
          have c8b0 : decide (a1 < (t154.size : Int)) = false := decide_eq_false c8
          clear c8
          replace H := Option.bind_eq_some_iff.mp H
          obtain ⟨t155, A100, H⟩ := H
          replace H : (if t155.size + t154.size ≤ 9223372036854775807 then (some (t155 ++ t154, true)) else (none)) = some (r1, r2) := H
          have A10 := Aside0.mk A100
          clear A100
          by_cases c11 : t155.size + t154.size ≤ 9223372036854775807
          · rw [if_pos c11] at H
            have c11b0 := eq_true c11
            have c11b1 : decide (t155.size + t154.size ≤ 9223372036854775807) = true := decide_eq_true c11
            try have c11b2 : (9223372036854775807 < t155.size + t154.size) = False := eq_false (Nat.not_lt.2 c11)
            have Sc11 := Aside0.mk c11
            clear c11
            simp only [Option.some.injEq, Prod.mk.injEq] at H
            obtain ⟨rfl, rfl⟩ := H
            go_wp2_with (first | ((with_reducible refine gate_callee (f := 36) rfl ?_); refine goesL_ (some 18) rfl rfl Tryd.func36 (by kernel_rfl) rfl #[.int .i64 a0, .int .i64 8] rfl (by (try simp only [List.map_toArray, List.map_cons, List.map_nil]); first | done | rfl | (simp only [List.length_drop, List.length_take]; rfl)) ?_; (with_reducible refine (strconv_FormatInt.calls a0 8 t154 _ ?side1 A7.out).mono ?_); (case side1 => exact ⟨Tabs.below hT.out (by repeat (first | (with_reducible first | exact HB.out | apply below_alloc | apply pw_below_drewN | apply below_drew1) | exact HB.out))⟩); rintro e w12 ⟨rfl, hb⟩; refine ⟨_, rfl, ?_⟩; have n0_ := Aside0.mk (below_step (by repeat (first | (with_reducible first | exact HB.out | apply below_alloc | apply pw_below_drewN | apply below_drew1) | exact HB.out)) hb); clear HB; have HB := n0_; clear n0_; (try clear hb); (try clear hb2); (try clear hk); (try clear hi)) | ((with_reducible refine gate_callee (f := 35) rfl ?_); refine goesL_ (some 27) rfl rfl Tryd.func35 (by kernel_rfl) rfl #[.string (⟨#[48]⟩ : ByteArray), .int .i64 (wrap64 (a1 - (t154.size : Int)))] rfl (by (try simp only [List.map_toArray, List.map_cons, List.map_nil]); first | done | rfl | (simp only [List.length_drop, List.length_take]; rfl)) ?_; (with_reducible refine (strings_Repeat.calls (⟨#[48]⟩ : ByteArray) (wrap64 (a1 - (t154.size : Int))) t155 _ A10.out).mono ?_); rintro e w13 ⟨rfl, hb⟩; refine ⟨_, rfl, ?_⟩; have n0_ := Aside0.mk (below_step (by repeat (first | (with_reducible first | exact HB.out | apply below_alloc | apply pw_below_drewN | apply below_drew1) | exact HB.out)) hb); clear HB; have HB := n0_; clear n0_; (try clear hb); (try clear hb2); (try clear hk); (try clear hi)))
            try any_goals (exfalso; have h_ := Sc11.out; rename_i hb_; simp only [ByteArray.size_extract] at h_; (try simp only [ByteArray.size, List.size_toArray, List.length_cons, List.length_nil] at h_ hb_); omega)
            go_ret2
            exact ⟨by first | rfl | (simp [errW_none, errW_some] <;> rfl) | (simp [*, errW_none, errW_some] <;> rfl), by repeat (first | (with_reducible first | exact HB.out | apply below_alloc | apply pw_below_drewN | apply below_drew1) | exact HB.out)⟩
          · rw [if_neg c11] at H
            exact absurd H (by simp)

end Go.Proofs.YtidlgdpjcognpaaDoor.P

-- written by xprint.py (the kit's print.py, turned), out of the translation; Lean checks it.
namespace Go.Proofs.YtidlgdpjcognpaaDoor.P
open Go.Proofs.YtidlgdpjcognpaaDoor.X
open Go.RowKit Go.Proofs.YtidlgdpjcognpaaDoorW.PrintWords Go.Proofs.YtidlgdpjcognpaaDoorW.PrintLast Go.Proofs.YtidlgdpjcognpaaDoorW.PrintMore
attribute [local go_sem] max2_int min2_int max_two min_two max_three min_three max_four min_four   -- for this text's walks alone
set_option linter.unusedVariables false
set_option linter.unusedSimpArgs false

/-! ### hogsheadref12_Octal: function 25 -/
mutual
def hogsheadref12_Octal.j0 : Nat → Int → Int → Bool → Option (ByteArray × Bool)
  | 0, _, _, _ => none
  | k + 1, x0, x1, x17 => if x17 = true then (some ((⟨#[]⟩ : ByteArray), false)) else (hogsheadref12_Octal.l0 k x0 x1 (⟨#[]⟩ : ByteArray) 0)
def hogsheadref12_Octal.l0 : Nat → Int → Int → ByteArray → Int → Option (ByteArray × Bool)
  | 0, _, _, _, _ => none
  | k + 1, x0, x1, x6, x7 => if x7 < x1 then (if 0 ≤ (Int.tmod x0 8) then (if (Int.tmod x0 8) ≤ (wrap64 ((Int.tmod x0 8) + 1)) then (if (wrap64 ((Int.tmod x0 8) + 1)) ≤ 8 then (if ((⟨#[48, 49, 50, 51, 52, 53, 54, 55]⟩ : ByteArray).extract ((Int.tmod x0 8) : Int).toNat ((wrap64 ((Int.tmod x0 8) + 1)) : Int).toNat).size + x6.size ≤ 9223372036854775807 then (hogsheadref12_Octal.l0 k (wrap64 (Int.tdiv x0 8)) x1 (((⟨#[48, 49, 50, 51, 52, 53, 54, 55]⟩ : ByteArray).extract ((Int.tmod x0 8) : Int).toNat ((wrap64 ((Int.tmod x0 8) + 1)) : Int).toNat) ++ x6) (wrap64 (x7 + 1))) else (none)) else (none)) else (none)) else (none)) else (if x0 > 0 then (some ((⟨#[]⟩ : ByteArray), false)) else (some (x6, true)))
end
def hogsheadref12_Octal.f (k : Nat) (a0 : Int) (a1 : Int) : Option (ByteArray × Bool) := if a0 < 0 then (hogsheadref12_Octal.j0 k a0 a1 true) else (if a1 < 1 then (hogsheadref12_Octal.j0 k a0 a1 true) else (hogsheadref12_Octal.j0 k a0 a1 (decide (a1 > 11))))
theorem hogsheadref12_Octal.mono_l : ∀ k, (∀ y0 y1 y2, LeO (hogsheadref12_Octal.j0 k y0 y1 y2) (hogsheadref12_Octal.j0 (k + 1) y0 y1 y2)) ∧ (∀ y0 y1 y2 y3, LeO (hogsheadref12_Octal.l0 k y0 y1 y2 y3) (hogsheadref12_Octal.l0 (k + 1) y0 y1 y2 y3))
  | 0 => ⟨fun _ _ _ r h => by simp [hogsheadref12_Octal.j0] at h, fun _ _ _ _ r h => by simp [hogsheadref12_Octal.l0] at h⟩
  | k + 1 => by
    obtain ⟨ih0, ih1⟩ := hogsheadref12_Octal.mono_l k
    refine ⟨?_, ?_⟩
    · intro y0 y1 y2
      unfold hogsheadref12_Octal.j0
      repeat' first
      | (with_reducible exact ih0 _ _ _)
      | (with_reducible exact ih1 _ _ _ _)
      | (with_reducible exact LeO.refl _)
      | (with_reducible exact LeO.none _)
      | (with_reducible refine LeO.ite ?_ ?_)
      | (with_reducible refine LeO.bind ?_ (fun _ => ?_))
      | exact ih0 _ _ _
      | exact ih1 _ _ _ _
      | exact LeO.none _
      | refine LeO.ite ?_ ?_
      | refine LeO.bind ?_ (fun _ => ?_)
    · intro y0 y1 y2 y3
      unfold hogsheadref12_Octal.l0
      repeat' first
      | (with_reducible exact ih0 _ _ _)
      | (with_reducible exact ih1 _ _ _ _)
      | (with_reducible exact LeO.refl _)
      | (with_reducible exact LeO.none _)
      | (with_reducible refine LeO.ite ?_ ?_)
      | (with_reducible refine LeO.bind ?_ (fun _ => ?_))
      | exact ih0 _ _ _
      | exact ih1 _ _ _ _
      | exact LeO.none _
      | refine LeO.ite ?_ ?_
      | refine LeO.bind ?_ (fun _ => ?_)
theorem hogsheadref12_Octal.mono : ∀ a0 a1 k, LeO (hogsheadref12_Octal.f k a0 a1) (hogsheadref12_Octal.f (k + 1) a0 a1) := by
  intro a0 a1 k
  obtain ⟨ih0, ih1⟩ := hogsheadref12_Octal.mono_l k
  unfold hogsheadref12_Octal.f
  repeat' first
      | (with_reducible exact ih0 _ _ _)
      | (with_reducible exact ih1 _ _ _ _)
      | (with_reducible exact LeO.refl _)
      | (with_reducible exact LeO.none _)
      | (with_reducible refine LeO.ite ?_ ?_)
      | (with_reducible refine LeO.bind ?_ (fun _ => ?_))
      | exact ih0 _ _ _
      | exact ih1 _ _ _ _
      | exact LeO.none _
      | refine LeO.ite ?_ ?_
      | refine LeO.bind ?_ (fun _ => ?_)
set_option maxHeartbeats 8000000 in
set_option maxRecDepth 100000 in
theorem hogsheadref12_Octal.calls (k : Nat) (a0 : Int) (a1 : Int) (r1 : ByteArray) (r2 : Bool) (w : World) (h : hogsheadref12_Octal.f k a0 a1 = some (r1, r2)) :
    Calls Tryd.prog 25 #[.int .i64 a0, .int .i64 a1] w fun e w' => e = .returned (.tuple #[.string r1, .bool r2]) ∧ Drawn0 w w' := by
  have H : (if a0 < 0 then (hogsheadref12_Octal.j0 k a0 a1 true) else (if a1 < 1 then (hogsheadref12_Octal.j0 k a0 a1 true) else (hogsheadref12_Octal.j0 k a0 a1 (decide (a1 > 11))))) = some (r1, r2) := h
  clear h
  have HC3 := Aside0.mk H
  clear H
  go_enter Tryd.func25, Tryd.ntmps25
  go_upto_region 1 with (fail)
  go_cut [17] (fun v17 wc => ∃ (kq : Nat) (x17_2 : Bool), v17 = .bool x17_2 ∧ Aside0 (hogsheadref12_Octal.j0 kq a0 a1 x17_2 = some (r1, r2)) ∧ Aside0 (kq ≤ k) ∧ Drawn0 w wc)
  case first =>
    have H := HC3.out
    clear HC3
    by_cases c4 : a0 < 0
    · rw [if_pos c4] at H
      have c4b0 : decide (a0 < 0) = true := decide_eq_true c4
      clear c4
      (first | rw [c4b0] | (simp only [i64_w, i32_w]; rw [c4b0]) | skip)
      have H' := Aside0.mk H
      clear H
      go_wp2
      go_meet
      case rel => exact ⟨_, (true), (by first | rfl | (simp; done) | (simp [*]; done)), H', ⟨by first | omega | exact Nat.le_refl _⟩, by repeat (first | exact Drawn0.refl _ | apply Drawn0.step)⟩
    · rw [if_neg c4] at H
      have c4b0 : decide (a0 < 0) = false := decide_eq_false c4
      clear c4
      (first | rw [c4b0] | (simp only [i64_w, i32_w]; rw [c4b0]) | skip)
      by_cases c5 : a1 < 1
      · rw [if_pos c5] at H
        have c5b0 : decide (a1 < 1) = true := decide_eq_true c5
        clear c5
        have H' := Aside0.mk H
        clear H
        go_wp2
        go_meet
        case rel => exact ⟨_, (true), (by first | rfl | (simp; done) | (simp [*]; done)), H', ⟨by first | omega | exact Nat.le_refl _⟩, by repeat (first | exact Drawn0.refl _ | apply Drawn0.step)⟩
      · rw [if_neg c5] at H
        have c5b0 : decide (a1 < 1) = false := decide_eq_false c5
        clear c5
        have H' := Aside0.mk H
        clear H
        go_wp2
        go_meet
        case rel => exact ⟨_, (decide (a1 > 11)), (by first | rfl | (simp; done) | (simp [*]; done)), H', ⟨by first | omega | exact Nat.le_refl _⟩, by repeat (first | exact Drawn0.refl _ | apply Drawn0.step)⟩
  case rest =>
    clear HC3
    try clear c2
    try clear p2
    try clear c4
    try clear c4b0
    try clear c5
    try clear c5b0
    obtain ⟨kq, x17_2, rfl, HA, HJ2, ⟨mc2, rfl⟩⟩ := hcut
    cases kq with
    | zero => exact absurd HA.out (by simp [hogsheadref12_Octal.j0])
    | succ kj2 =>
      have H := HA.out
      clear HA
      simp only [hogsheadref12_Octal.j0] at H
      by_cases c6 : x17_2 = true
      · subst c6
        have H1 : (some ((⟨#[]⟩ : ByteArray), false)) = some (r1, r2) := by rw [if_pos rfl] at H; exact H
        clear H
        have H := H1
        clear H1
        simp only [Option.some.injEq, Prod.mk.injEq] at H
        obtain ⟨rfl, rfl⟩ := H
        go_wp2
        go_ret2
        exact ⟨by first | rfl | (simp; done) | (simp [*]; done), by repeat (first | exact Drawn0.refl _ | apply Drawn0.step)⟩
      · replace c6 := Bool.eq_false_iff.mpr c6
        subst c6
        have H1 : (hogsheadref12_Octal.l0 kj2 a0 a1 (⟨#[]⟩ : ByteArray) 0) = some (r1, r2) := by rw [if_neg (show ¬ (false = true) by decide)] at H; exact H
        clear H
        have H := H1
        clear H1
        have H' := Aside0.mk H
        clear H
        go_wp2
        go_loopg [0, 6, 7] kj2 (fun kq v0 v6 v7 w' => ∃ (x0_2 : Int) (x6_2 : ByteArray) (x7_2 : Int), v0 = .int .i64 x0_2 ∧ v6 = .string x6_2 ∧ v7 = .int .i64 x7_2 ∧ Aside0 (hogsheadref12_Octal.l0 kq x0_2 a1 x6_2 x7_2 = some (r1, r2)) ∧ Aside0 (kq ≤ kj2) ∧ Drawn0 w w')
        case atStart => exact ⟨(a0), ((⟨#[]⟩ : ByteArray)), (0), (by first | rfl | (simp; done) | (simp [*]; done)), (by first | rfl | (simp; done) | (simp [*]; done)), (by first | rfl | (simp; done) | (simp [*]; done)), H', ⟨Nat.le_refl _⟩, by repeat (first | exact Drawn0.refl _ | apply Drawn0.step)⟩
        case round =>
          clear H'
          try clear c2
          try clear p2
          try clear c4
          try clear c4b0
          try clear c5
          try clear c5b0
          try clear c6
          try clear p2
          obtain ⟨x0_2, x6_2, x7_2, rfl, rfl, rfl, HA, HK2, ⟨m2, rfl⟩⟩ := hrel
          cases gk with
          | zero => exact absurd HA.out (by simp [hogsheadref12_Octal.l0])
          | succ k2 =>
            have H := HA.out
            clear HA
            simp only [hogsheadref12_Octal.l0] at H
            by_cases c7 : x7_2 < a1
            · rw [if_pos c7] at H
              have c7b0 : decide (x7_2 < a1) = true := decide_eq_true c7
              clear c7
              obtain ⟨ji8, hji8⟩ : ∃ j_ : Int, (Int.tmod x0_2 8) = j_ := ⟨_, rfl⟩
              replace H : (if 0 ≤ (ji8) then (if (ji8) ≤ (wrap64 ((ji8) + 1)) then (if (wrap64 ((ji8) + 1)) ≤ 8 then (if ((⟨#[48, 49, 50, 51, 52, 53, 54, 55]⟩ : ByteArray).extract ((ji8) : Int).toNat ((wrap64 ((ji8) + 1)) : Int).toNat).size + x6_2.size ≤ 9223372036854775807 then (hogsheadref12_Octal.l0 k2 (wrap64 (Int.tdiv x0_2 8)) a1 (((⟨#[48, 49, 50, 51, 52, 53, 54, 55]⟩ : ByteArray).extract ((ji8) : Int).toNat ((wrap64 ((ji8) + 1)) : Int).toNat) ++ x6_2) (wrap64 (x7_2 + 1))) else (none)) else (none)) else (none)) else (none)) = some (r1, r2) := by first | (rw [hji8] at H; exact H) | (simp only [hji8] at H ⊢; exact H)
              by_cases c9 : 0 ≤ (ji8)
              · rw [if_pos c9] at H
                have c9b0 := eq_true c9
                have c9b1 : decide (0 ≤ (ji8)) = true := decide_eq_true c9
                clear c9
                by_cases c10 : (ji8) ≤ (wrap64 ((ji8) + 1))
                · rw [if_pos c10] at H
                  have c10b0 := eq_true c10
                  have c10b1 : decide ((ji8) ≤ (wrap64 ((ji8) + 1))) = true := decide_eq_true c10
                  by_cases c11 : (wrap64 ((ji8) + 1)) ≤ 8
                  · rw [if_pos c11] at H
                    have c11b0 := eq_true c11
                    have c11b1 : decide ((wrap64 ((ji8) + 1)) ≤ 8) = true := decide_eq_true c11
                    by_cases c12 : ((⟨#[48, 49, 50, 51, 52, 53, 54, 55]⟩ : ByteArray).extract ((ji8) : Int).toNat ((wrap64 ((ji8) + 1)) : Int).toNat).size + x6_2.size ≤ 9223372036854775807
                    · rw [if_pos c12] at H
                      have c12b0 := eq_true c12
                      have c12b1 : decide (((⟨#[48, 49, 50, 51, 52, 53, 54, 55]⟩ : ByteArray).extract ((ji8) : Int).toNat ((wrap64 ((ji8) + 1)) : Int).toNat).size + x6_2.size ≤ 9223372036854775807) = true := decide_eq_true c12
                      try have c12b2 : (9223372036854775807 < ((⟨#[48, 49, 50, 51, 52, 53, 54, 55]⟩ : ByteArray).extract ((ji8) : Int).toNat ((wrap64 ((ji8) + 1)) : Int).toNat).size + x6_2.size) = False := eq_false (Nat.not_lt.2 c12)
                      have Sc12 := Aside0.mk c12
                      clear c12
                      have H' := Aside0.mk H
                      clear H
                      go_wp2
                      try any_goals (exfalso; have h_ := Sc12.out; rename_i hb_; simp only [ByteArray.size_extract] at h_; (try simp only [ByteArray.size, List.size_toArray, List.length_cons, List.length_nil] at h_ hb_); omega)
                      go_roundg k2
                      case measure => have := HJ2.out; have := HK2.out; omega
                      case rel => exact ⟨(wrap64 (Int.tdiv x0_2 8)), (((⟨#[48, 49, 50, 51, 52, 53, 54, 55]⟩ : ByteArray).extract ((ji8) : Int).toNat ((wrap64 ((ji8) + 1)) : Int).toNat) ++ x6_2), (wrap64 (x7_2 + 1)), (by first | rfl | (simp; done) | (simp [*]; done)), (by first | rfl | (simp; done) | (simp only [← hji8] <;> (first | rfl | simp)) | (simp [*]; done)), (by first | rfl | (simp; done) | (simp [*]; done)), H', ⟨by have := HJ2.out; have := HK2.out; omega⟩, by repeat (first | exact Drawn0.refl _ | apply Drawn0.step)⟩
                    · rw [if_neg c12] at H
                      exact absurd H (by simp)
                  · rw [if_neg c11] at H
                    exact absurd H (by simp)
                · rw [if_neg c10] at H
                  exact absurd H (by simp)
              · rw [if_neg c9] at H
                exact absurd H (by simp)
            · rw [if_neg c7] at H
              have c7b0 : decide (x7_2 < a1) = false := decide_eq_false c7
              clear c7
              by_cases c13 : x0_2 > 0
              · rw [if_pos c13] at H
                have c13b0 : decide (0 < x0_2) = true := decide_eq_true c13
                clear c13
                simp only [Option.some.injEq, Prod.mk.injEq] at H
                obtain ⟨rfl, rfl⟩ := H
                go_wp2
                go_ret2
                exact ⟨by first | rfl | (simp; done) | (simp [*]; done), by repeat (first | exact Drawn0.refl _ | apply Drawn0.step)⟩
              · rw [if_neg c13] at H
                have c13b0 : decide (0 < x0_2) = false := decide_eq_false c13
                clear c13
                simp only [Option.some.injEq, Prod.mk.injEq] at H
                obtain ⟨rfl, rfl⟩ := H
                go_wp2
                go_ret2
                exact ⟨by first | rfl | (simp; done) | (simp [*]; done), by repeat (first | exact Drawn0.refl _ | apply Drawn0.step)⟩

end Go.Proofs.YtidlgdpjcognpaaDoor.P

-- written by xprint.py (the kit's print.py, turned), out of the translation; Lean checks it.
namespace Go.Proofs.YtidlgdpjcognpaaDoor.P
open Go.Proofs.YtidlgdpjcognpaaDoor.X
open Go.RowKit Go.Proofs.YtidlgdpjcognpaaDoorW.PrintWords Go.Proofs.YtidlgdpjcognpaaDoorW.PrintLast Go.Proofs.YtidlgdpjcognpaaDoorW.PrintMore
attribute [local go_sem] max2_int min2_int max_two min_two max_three min_three max_four min_four   -- for this text's walks alone
set_option linter.unusedVariables false
set_option linter.unusedSimpArgs false

/-! ### head_OfOctal: function 26 -/
mutual
def head_OfOctal.j0 : Nat → ByteArray → Bool → Option (Int × Bool)
  | 0, _, _ => none
  | k + 1, x0, x13 => if x13 = true then (some (0, false)) else (head_OfOctal.l0 k x0 0 (x0.size : Int) 0)
def head_OfOctal.l0 : Nat → ByteArray → Int → Int → Int → Option (Int × Bool)
  | 0, _, _, _, _ => none
  | k + 1, x0, x4, x15, x16 => if x16 < x15 then (if 0 ≤ x16 then (if x16 < (x0.size : Int) then (if (bt x0 x16) < 48 then (some (0, false)) else (if (bt x0 x16) > 55 then (some (0, false)) else (head_OfOctal.l0 k x0 (wrap64 ((wrap64 (8 * x4)) + (((bt x0 x16) - 48) % 256))) x15 (wrap64 (x16 + 1))))) else (none)) else (none)) else (some (x4, true))
end
def head_OfOctal.f (k : Nat) (a0 : ByteArray) : Option (Int × Bool) := if (a0.size : Int) < 1 then (head_OfOctal.j0 k a0 true) else (head_OfOctal.j0 k a0 (decide ((a0.size : Int) > 11)))
theorem head_OfOctal.mono_l : ∀ k, (∀ y0 y1, LeO (head_OfOctal.j0 k y0 y1) (head_OfOctal.j0 (k + 1) y0 y1)) ∧ (∀ y0 y1 y2 y3, LeO (head_OfOctal.l0 k y0 y1 y2 y3) (head_OfOctal.l0 (k + 1) y0 y1 y2 y3))
  | 0 => ⟨fun _ _ r h => by simp [head_OfOctal.j0] at h, fun _ _ _ _ r h => by simp [head_OfOctal.l0] at h⟩
  | k + 1 => by
    obtain ⟨ih0, ih1⟩ := head_OfOctal.mono_l k
    refine ⟨?_, ?_⟩
    · intro y0 y1
      unfold head_OfOctal.j0
      repeat' first
      | (with_reducible exact ih0 _ _)
      | (with_reducible exact ih1 _ _ _ _)
      | (with_reducible exact LeO.refl _)
      | (with_reducible exact LeO.none _)
      | (with_reducible refine LeO.ite ?_ ?_)
      | (with_reducible refine LeO.bind ?_ (fun _ => ?_))
      | exact ih0 _ _
      | exact ih1 _ _ _ _
      | exact LeO.none _
      | refine LeO.ite ?_ ?_
      | refine LeO.bind ?_ (fun _ => ?_)
    · intro y0 y1 y2 y3
      unfold head_OfOctal.l0
      repeat' first
      | (with_reducible exact ih0 _ _)
      | (with_reducible exact ih1 _ _ _ _)
      | (with_reducible exact LeO.refl _)
      | (with_reducible exact LeO.none _)
      | (with_reducible refine LeO.ite ?_ ?_)
      | (with_reducible refine LeO.bind ?_ (fun _ => ?_))
      | exact ih0 _ _
      | exact ih1 _ _ _ _
      | exact LeO.none _
      | refine LeO.ite ?_ ?_
      | refine LeO.bind ?_ (fun _ => ?_)
theorem head_OfOctal.mono : ∀ a0 k, LeO (head_OfOctal.f k a0) (head_OfOctal.f (k + 1) a0) := by
  intro a0 k
  obtain ⟨ih0, ih1⟩ := head_OfOctal.mono_l k
  unfold head_OfOctal.f
  repeat' first
      | (with_reducible exact ih0 _ _)
      | (with_reducible exact ih1 _ _ _ _)
      | (with_reducible exact LeO.refl _)
      | (with_reducible exact LeO.none _)
      | (with_reducible refine LeO.ite ?_ ?_)
      | (with_reducible refine LeO.bind ?_ (fun _ => ?_))
      | exact ih0 _ _
      | exact ih1 _ _ _ _
      | exact LeO.none _
      | refine LeO.ite ?_ ?_
      | refine LeO.bind ?_ (fun _ => ?_)
set_option maxHeartbeats 8000000 in
set_option maxRecDepth 100000 in
theorem head_OfOctal.calls (k : Nat) (a0 : ByteArray) (r1 : Int) (r2 : Bool) (w : World) (h : head_OfOctal.f k a0 = some (r1, r2)) :
    Calls Tryd.prog 26 #[.string a0] w fun e w' => e = .returned (.tuple #[.int .i64 r1, .bool r2]) ∧ Drawn0 w w' := by
  have H : (if (a0.size : Int) < 1 then (head_OfOctal.j0 k a0 true) else (head_OfOctal.j0 k a0 (decide ((a0.size : Int) > 11)))) = some (r1, r2) := h
  clear h
  have HC2 := Aside0.mk H
  clear H
  go_enter Tryd.func26, Tryd.ntmps26
  go_upto_region 1 with (fail)
  go_cut [13] (fun v13 wc => ∃ (kq : Nat) (x13_1 : Bool), v13 = .bool x13_1 ∧ Aside0 (head_OfOctal.j0 kq a0 x13_1 = some (r1, r2)) ∧ Aside0 (kq ≤ k) ∧ Drawn0 w wc)
  case first =>
    have H := HC2.out
    clear HC2
    by_cases c3 : (a0.size : Int) < 1
    · rw [if_pos c3] at H
      have c3b0 : decide ((a0.size : Int) < 1) = true := decide_eq_true c3
      have c3b1 : decide (a0.size < 1) = true := decide_eq_true (by omega)
      clear c3
      (first | rw [c3b0] | (simp only [i64_w, i32_w]; rw [c3b0]) | skip)
      have H' := Aside0.mk H
      clear H
      go_wp2
      go_meet
      case rel => exact ⟨_, (true), (by first | rfl | (simp; done) | (simp [*]; done)), H', ⟨by first | omega | exact Nat.le_refl _⟩, by repeat (first | exact Drawn0.refl _ | apply Drawn0.step)⟩
    · rw [if_neg c3] at H
      have c3b0 : decide ((a0.size : Int) < 1) = false := decide_eq_false c3
      have c3b1 : decide (a0.size < 1) = false := decide_eq_false (by omega)
      clear c3
      (first | rw [c3b0] | (simp only [i64_w, i32_w]; rw [c3b0]) | skip)
      have H' := Aside0.mk H
      clear H
      go_wp2
      go_meet
      case rel => exact ⟨_, (decide ((a0.size : Int) > 11)), (by first | rfl | (simp; done) | (simp [*]; done)), H', ⟨by first | omega | exact Nat.le_refl _⟩, by repeat (first | exact Drawn0.refl _ | apply Drawn0.step)⟩
  case rest =>
    clear HC2
    try clear c2
    try clear p2
    try clear c3
    try clear c3b0
    try clear c3b1
    obtain ⟨kq, x13_1, rfl, HA, HJ1, ⟨mc1, rfl⟩⟩ := hcut
    cases kq with
    | zero => exact absurd HA.out (by simp [head_OfOctal.j0])
    | succ kj1 =>
      have H := HA.out
      clear HA
      simp only [head_OfOctal.j0] at H
      by_cases c4 : x13_1 = true
      · subst c4
        have H1 : (some (0, false)) = some (r1, r2) := by rw [if_pos rfl] at H; exact H
        clear H
        have H := H1
        clear H1
        simp only [Option.some.injEq, Prod.mk.injEq] at H
        obtain ⟨rfl, rfl⟩ := H
        go_wp2
        go_ret2
        exact ⟨by first | rfl | (simp; done) | (simp [*]; done), by repeat (first | exact Drawn0.refl _ | apply Drawn0.step)⟩
      · replace c4 := Bool.eq_false_iff.mpr c4
        subst c4
        have H1 : (head_OfOctal.l0 kj1 a0 0 (a0.size : Int) 0) = some (r1, r2) := by rw [if_neg (show ¬ (false = true) by decide)] at H; exact H
        clear H
        have H := H1
        clear H1
        have H' := Aside0.mk H
        clear H
        go_wp2
        go_loopg [4, 16] kj1 (fun kq v4 v16 w' => ∃ (x4_2 : Int) (x16_2 : Int), v4 = .int .i64 x4_2 ∧ v16 = .int .i64 x16_2 ∧ Aside0 (head_OfOctal.l0 kq a0 x4_2 (a0.size : Int) x16_2 = some (r1, r2)) ∧ Aside0 (kq ≤ kj1) ∧ Drawn0 w w')
        case atStart => exact ⟨(0), (0), (by first | rfl | (simp; done) | (simp [*]; done)), (by first | rfl | (simp; done) | (simp [*]; done)), H', ⟨Nat.le_refl _⟩, by repeat (first | exact Drawn0.refl _ | apply Drawn0.step)⟩
        case round =>
          clear H'
          try clear c1
          try clear c2
          try clear p2
          try clear c3
          try clear c3b0
          try clear c3b1
          try clear c4
          try clear p2
          obtain ⟨x4_2, x16_2, rfl, rfl, HA, HK2, ⟨m2, rfl⟩⟩ := hrel
          cases gk with
          | zero => exact absurd HA.out (by simp [head_OfOctal.l0])
          | succ k2 =>
            have H := HA.out
            clear HA
            simp only [head_OfOctal.l0] at H
            by_cases c5 : x16_2 < (a0.size : Int)
            · rw [if_pos c5] at H
              have c5b0 : decide (x16_2 < (a0.size : Int)) = true := decide_eq_true c5
              clear c5
              by_cases c6 : 0 ≤ x16_2
              · rw [if_pos c6] at H
                have c6b0 : decide (0 ≤ x16_2) = true := decide_eq_true c6
                clear c6
                by_cases c7 : x16_2 < (a0.size : Int)
                · rw [if_pos c7] at H
                  have c7b0 : decide (x16_2 < (a0.size : Int)) = true := decide_eq_true c7
                  clear c7
                  by_cases c9 : (bt a0 x16_2) < 48
                  · rw [if_pos c9] at H
                    have c9b0 : decide ((bt a0 x16_2) < 48) = true := decide_eq_true c9
                    clear c9
                    simp only [Option.some.injEq, Prod.mk.injEq] at H
                    obtain ⟨rfl, rfl⟩ := H
                    have p8 : 0 ≤ (x16_2 : Int) := of_decide_eq_true (by first | (with_reducible assumption) | assumption)
                    have q8 : x16_2 < (a0.size : Int) := of_decide_eq_true (by first | (with_reducible assumption) | assumption)
                    have hx8 := bt_at a0 x16_2
                    replace p8 := eq_true p8
                    replace q8 := eq_true q8
                    go_wp2
                    go_ret2
                    exact ⟨by first | rfl | (simp; done) | (simp [*]; done), by repeat (first | exact Drawn0.refl _ | apply Drawn0.step)⟩
                  · rw [if_neg c9] at H
                    have c9b0 : decide ((bt a0 x16_2) < 48) = false := decide_eq_false c9
                    clear c9
                    by_cases c11 : (bt a0 x16_2) > 55
                    · rw [if_pos c11] at H
                      have c11b0 : decide (55 < (bt a0 x16_2)) = true := decide_eq_true c11
                      clear c11
                      simp only [Option.some.injEq, Prod.mk.injEq] at H
                      obtain ⟨rfl, rfl⟩ := H
                      have p8 : 0 ≤ (x16_2 : Int) := of_decide_eq_true (by first | (with_reducible assumption) | assumption)
                      have q8 : x16_2 < (a0.size : Int) := of_decide_eq_true (by first | (with_reducible assumption) | assumption)
                      have hx8 := bt_at a0 x16_2
                      replace p8 := eq_true p8
                      replace q8 := eq_true q8
                      have p10 : 0 ≤ (x16_2 : Int) := of_decide_eq_true (by first | (with_reducible assumption) | assumption)
                      have q10 : x16_2 < (a0.size : Int) := of_decide_eq_true (by first | (with_reducible assumption) | assumption)
                      have hx10 := bt_at a0 x16_2
                      replace p10 := eq_true p10
                      replace q10 := eq_true q10
                      go_wp2
                      go_ret2
                      exact ⟨by first | rfl | (simp; done) | (simp [*]; done), by repeat (first | exact Drawn0.refl _ | apply Drawn0.step)⟩
                    · rw [if_neg c11] at H
                      have c11b0 : decide (55 < (bt a0 x16_2)) = false := decide_eq_false c11
                      clear c11
                      have H' := Aside0.mk H
                      clear H
                      have p8 : 0 ≤ (x16_2 : Int) := of_decide_eq_true (by first | (with_reducible assumption) | assumption)
                      have q8 : x16_2 < (a0.size : Int) := of_decide_eq_true (by first | (with_reducible assumption) | assumption)
                      have hx8 := bt_at a0 x16_2
                      replace p8 := eq_true p8
                      replace q8 := eq_true q8
                      have p10 : 0 ≤ (x16_2 : Int) := of_decide_eq_true (by first | (with_reducible assumption) | assumption)
                      have q10 : x16_2 < (a0.size : Int) := of_decide_eq_true (by first | (with_reducible assumption) | assumption)
                      have hx10 := bt_at a0 x16_2
                      replace p10 := eq_true p10
                      replace q10 := eq_true q10
                      have p12 : 0 ≤ (x16_2 : Int) := of_decide_eq_true (by first | (with_reducible assumption) | assumption)
                      have q12 : x16_2 < (a0.size : Int) := of_decide_eq_true (by first | (with_reducible assumption) | assumption)
                      have hx12 := bt_at a0 x16_2
                      replace p12 := eq_true p12
                      replace q12 := eq_true q12
                      go_wp2
                      go_roundg k2
                      case measure => have := HJ1.out; have := HK2.out; omega
                      case rel => exact ⟨(wrap64 ((wrap64 (8 * x4_2)) + (((bt a0 x16_2) - 48) % 256))), (wrap64 (x16_2 + 1)), (by first | rfl | (simp; done) | (simp [*]; done)), (by first | rfl | (simp; done) | (simp [*]; done)), H', ⟨by have := HJ1.out; have := HK2.out; omega⟩, by repeat (first | exact Drawn0.refl _ | apply Drawn0.step)⟩
                · rw [if_neg c7] at H
                  exact absurd H (by simp)
              · rw [if_neg c6] at H
                exact absurd H (by simp)
            · rw [if_neg c5] at H
              have c5b0 : decide (x16_2 < (a0.size : Int)) = false := decide_eq_false c5
              clear c5
              simp only [Option.some.injEq, Prod.mk.injEq] at H
              obtain ⟨rfl, rfl⟩ := H
              go_wp2
              go_ret2
              exact ⟨by first | rfl | (simp; done) | (simp [*]; done), by repeat (first | exact Drawn0.refl _ | apply Drawn0.step)⟩

end Go.Proofs.YtidlgdpjcognpaaDoor.P

-- written by xprint.py (the kit's print.py, turned), out of the translation; Lean checks it.
namespace Go.Proofs.YtidlgdpjcognpaaDoor.P
open Go.Proofs.YtidlgdpjcognpaaDoor.X
open Go.RowKit Go.Proofs.YtidlgdpjcognpaaDoorW.PrintWords Go.Proofs.YtidlgdpjcognpaaDoorW.PrintLast Go.Proofs.YtidlgdpjcognpaaDoorW.PrintMore
attribute [local go_sem] max2_int min2_int max_two min_two max_three min_three max_four min_four   -- for this text's walks alone
set_option linter.unusedVariables false
set_option linter.unusedSimpArgs false

/-! ### hogsheadref12_OfOctal: function 27 -/
mutual
def hogsheadref12_OfOctal.l0 : Nat → ByteArray → Int → Int → Option (Int × Bool)
  | 0, _, _, _ => none
  | k + 1, x0, x4, x5 => if x5 < (x0.size : Int) then (hogsheadref12_OfOctal.j1 k x0 x4 x5 (decide ((x0.size : Int) ≤ 11))) else (hogsheadref12_OfOctal.j1 k x0 x4 x5 false)
def hogsheadref12_OfOctal.j1 : Nat → ByteArray → Int → Int → Bool → Option (Int × Bool)
  | 0, _, _, _, _ => none
  | k + 1, x0, x4, x5, x14 => if x14 = true then (if 0 ≤ x5 then (if x5 < (x0.size : Int) then (if (bt x0 x5) < 48 then (some (0, false)) else (if (bt x0 x5) > 55 then (some (0, false)) else (hogsheadref12_OfOctal.l0 k x0 (wrap64 ((wrap64 (x4 * 8)) + (((bt x0 x5) - 48) % 256))) (wrap64 (x5 + 1))))) else (none)) else (none)) else (if (x0.size : Int) < 1 then (some (0, false)) else (if (x0.size : Int) > 11 then (some (0, false)) else (some (x4, true))))
end
def hogsheadref12_OfOctal.f (k : Nat) (a0 : ByteArray) : Option (Int × Bool) := hogsheadref12_OfOctal.l0 k a0 0 0
theorem hogsheadref12_OfOctal.mono_l : ∀ k, (∀ y0 y1 y2, LeO (hogsheadref12_OfOctal.l0 k y0 y1 y2) (hogsheadref12_OfOctal.l0 (k + 1) y0 y1 y2)) ∧ (∀ y0 y1 y2 y3, LeO (hogsheadref12_OfOctal.j1 k y0 y1 y2 y3) (hogsheadref12_OfOctal.j1 (k + 1) y0 y1 y2 y3))
  | 0 => ⟨fun _ _ _ r h => by simp [hogsheadref12_OfOctal.l0] at h, fun _ _ _ _ r h => by simp [hogsheadref12_OfOctal.j1] at h⟩
  | k + 1 => by
    obtain ⟨ih0, ih1⟩ := hogsheadref12_OfOctal.mono_l k
    refine ⟨?_, ?_⟩
    · intro y0 y1 y2
      unfold hogsheadref12_OfOctal.l0
      repeat' first
      | (with_reducible exact ih0 _ _ _)
      | (with_reducible exact ih1 _ _ _ _)
      | (with_reducible exact LeO.refl _)
      | (with_reducible exact LeO.none _)
      | (with_reducible refine LeO.ite ?_ ?_)
      | (with_reducible refine LeO.bind ?_ (fun _ => ?_))
      | exact ih0 _ _ _
      | exact ih1 _ _ _ _
      | exact LeO.none _
      | refine LeO.ite ?_ ?_
      | refine LeO.bind ?_ (fun _ => ?_)
    · intro y0 y1 y2 y3
      unfold hogsheadref12_OfOctal.j1
      repeat' first
      | (with_reducible exact ih0 _ _ _)
      | (with_reducible exact ih1 _ _ _ _)
      | (with_reducible exact LeO.refl _)
      | (with_reducible exact LeO.none _)
      | (with_reducible refine LeO.ite ?_ ?_)
      | (with_reducible refine LeO.bind ?_ (fun _ => ?_))
      | exact ih0 _ _ _
      | exact ih1 _ _ _ _
      | exact LeO.none _
      | refine LeO.ite ?_ ?_
      | refine LeO.bind ?_ (fun _ => ?_)
theorem hogsheadref12_OfOctal.mono : ∀ a0 k, LeO (hogsheadref12_OfOctal.f k a0) (hogsheadref12_OfOctal.f (k + 1) a0) := by
  intro a0 k
  obtain ⟨ih0, ih1⟩ := hogsheadref12_OfOctal.mono_l k
  unfold hogsheadref12_OfOctal.f
  repeat' first
      | (with_reducible exact ih0 _ _ _)
      | (with_reducible exact ih1 _ _ _ _)
      | (with_reducible exact LeO.refl _)
      | (with_reducible exact LeO.none _)
      | (with_reducible refine LeO.ite ?_ ?_)
      | (with_reducible refine LeO.bind ?_ (fun _ => ?_))
      | exact ih0 _ _ _
      | exact ih1 _ _ _ _
      | exact LeO.none _
      | refine LeO.ite ?_ ?_
      | refine LeO.bind ?_ (fun _ => ?_)
set_option maxHeartbeats 8000000 in
set_option maxRecDepth 100000 in
theorem hogsheadref12_OfOctal.calls (k : Nat) (a0 : ByteArray) (r1 : Int) (r2 : Bool) (w : World) (h : hogsheadref12_OfOctal.f k a0 = some (r1, r2)) :
    Calls Tryd.prog 27 #[.string a0] w fun e w' => e = .returned (.tuple #[.int .i64 r1, .bool r2]) ∧ Drawn0 w w' := by
  have H : (hogsheadref12_OfOctal.l0 k a0 0 0) = some (r1, r2) := h
  clear h
  have H' := Aside0.mk H
  clear H
  go_enter Tryd.func27, Tryd.ntmps27
  go_wp2
  go_loopg [4, 5] k (fun kq v4 v5 w' => ∃ (x4_1 : Int) (x5_1 : Int), v4 = .int .i64 x4_1 ∧ v5 = .int .i64 x5_1 ∧ Aside0 (hogsheadref12_OfOctal.l0 kq a0 x4_1 x5_1 = some (r1, r2)) ∧ Aside0 (kq ≤ k) ∧ Drawn0 w w')
  case atStart => exact ⟨(0), (0), (by first | rfl | (simp; done) | (simp [*]; done)), (by first | rfl | (simp; done) | (simp [*]; done)), H', ⟨Nat.le_refl _⟩, by repeat (first | exact Drawn0.refl _ | apply Drawn0.step)⟩
  case round =>
    clear H'
    obtain ⟨x4_1, x5_1, rfl, rfl, HA, HK1, ⟨m1, rfl⟩⟩ := hrel
    cases gk with
    | zero => exact absurd HA.out (by simp [hogsheadref12_OfOctal.l0])
    | succ k1 =>
      have H := HA.out
      clear HA
      simp only [hogsheadref12_OfOctal.l0] at H
      have HC2 := Aside0.mk H
      clear H
      go_upto_region 3 with (fail)
      go_cut [14] (fun v14 wc => ∃ (kq : Nat) (x14_1 : Bool), v14 = .bool x14_1 ∧ Aside0 (hogsheadref12_OfOctal.j1 kq a0 x4_1 x5_1 x14_1 = some (r1, r2)) ∧ Aside0 (kq ≤ k1) ∧ Drawn0 w wc)
      case first =>
        have H := HC2.out
        clear HC2
        by_cases c3 : x5_1 < (a0.size : Int)
        · rw [if_pos c3] at H
          have c3b0 : decide (x5_1 < (a0.size : Int)) = true := decide_eq_true c3
          clear c3
          (first | rw [c3b0] | (simp only [i64_w, i32_w]; rw [c3b0]) | skip)
          have H' := Aside0.mk H
          clear H
          go_wp2
          go_meet
          case rel => exact ⟨_, (decide ((a0.size : Int) ≤ 11)), (by first | rfl | (simp; done) | (simp [*]; done)), H', ⟨by have := HK1.out; first | omega | exact Nat.le_refl _⟩, by repeat (first | exact Drawn0.refl _ | apply Drawn0.step)⟩
        · rw [if_neg c3] at H
          have c3b0 : decide (x5_1 < (a0.size : Int)) = false := decide_eq_false c3
          clear c3
          (first | rw [c3b0] | (simp only [i64_w, i32_w]; rw [c3b0]) | skip)
          have H' := Aside0.mk H
          clear H
          go_wp2
          go_meet
          case rel => exact ⟨_, (false), (by first | rfl | (simp; done) | (simp [*]; done)), H', ⟨by have := HK1.out; first | omega | exact Nat.le_refl _⟩, by repeat (first | exact Drawn0.refl _ | apply Drawn0.step)⟩
      case rest =>
        clear HC2
        try clear c2
        try clear p2
        try clear c3
        try clear c3b0
        obtain ⟨kq, x14_1, rfl, HA, HJ1, ⟨mc1, rfl⟩⟩ := hcut
        cases kq with
        | zero => exact absurd HA.out (by simp [hogsheadref12_OfOctal.j1])
        | succ kj1 =>
          have H := HA.out
          clear HA
          simp only [hogsheadref12_OfOctal.j1] at H
          by_cases c4 : x14_1 = true
          · subst c4
            have H1 : (if 0 ≤ x5_1 then (if x5_1 < (a0.size : Int) then (if (bt a0 x5_1) < 48 then (some (0, false)) else (if (bt a0 x5_1) > 55 then (some (0, false)) else (hogsheadref12_OfOctal.l0 kj1 a0 (wrap64 ((wrap64 (x4_1 * 8)) + (((bt a0 x5_1) - 48) % 256))) (wrap64 (x5_1 + 1))))) else (none)) else (none)) = some (r1, r2) := by rw [if_pos rfl] at H; exact H
            clear H
            have H := H1
            clear H1
            by_cases c5 : 0 ≤ x5_1
            · rw [if_pos c5] at H
              have c5b0 : decide (0 ≤ x5_1) = true := decide_eq_true c5
              clear c5
              by_cases c6 : x5_1 < (a0.size : Int)
              · rw [if_pos c6] at H
                have c6b0 : decide (x5_1 < (a0.size : Int)) = true := decide_eq_true c6
                clear c6
                by_cases c8 : (bt a0 x5_1) < 48
                · rw [if_pos c8] at H
                  have c8b0 : decide ((bt a0 x5_1) < 48) = true := decide_eq_true c8
                  clear c8
                  simp only [Option.some.injEq, Prod.mk.injEq] at H
                  obtain ⟨rfl, rfl⟩ := H
                  have p7 : 0 ≤ (x5_1 : Int) := of_decide_eq_true (by first | (with_reducible assumption) | assumption)
                  have q7 : x5_1 < (a0.size : Int) := of_decide_eq_true (by first | (with_reducible assumption) | assumption)
                  have hx7 := bt_at a0 x5_1
                  replace p7 := eq_true p7
                  replace q7 := eq_true q7
                  go_wp2
                  go_ret2
                  exact ⟨by first | rfl | (simp; done) | (simp [*]; done), by repeat (first | exact Drawn0.refl _ | apply Drawn0.step)⟩
                · rw [if_neg c8] at H
                  have c8b0 : decide ((bt a0 x5_1) < 48) = false := decide_eq_false c8
                  clear c8
                  by_cases c10 : (bt a0 x5_1) > 55
                  · rw [if_pos c10] at H
                    have c10b0 : decide (55 < (bt a0 x5_1)) = true := decide_eq_true c10
                    clear c10
                    simp only [Option.some.injEq, Prod.mk.injEq] at H
                    obtain ⟨rfl, rfl⟩ := H
                    have p7 : 0 ≤ (x5_1 : Int) := of_decide_eq_true (by first | (with_reducible assumption) | assumption)
                    have q7 : x5_1 < (a0.size : Int) := of_decide_eq_true (by first | (with_reducible assumption) | assumption)
                    have hx7 := bt_at a0 x5_1
                    replace p7 := eq_true p7
                    replace q7 := eq_true q7
                    have p9 : 0 ≤ (x5_1 : Int) := of_decide_eq_true (by first | (with_reducible assumption) | assumption)
                    have q9 : x5_1 < (a0.size : Int) := of_decide_eq_true (by first | (with_reducible assumption) | assumption)
                    have hx9 := bt_at a0 x5_1
                    replace p9 := eq_true p9
                    replace q9 := eq_true q9
                    go_wp2
                    go_ret2
                    exact ⟨by first | rfl | (simp; done) | (simp [*]; done), by repeat (first | exact Drawn0.refl _ | apply Drawn0.step)⟩
                  · rw [if_neg c10] at H
                    have c10b0 : decide (55 < (bt a0 x5_1)) = false := decide_eq_false c10
                    clear c10
                    have H' := Aside0.mk H
                    clear H
                    have p7 : 0 ≤ (x5_1 : Int) := of_decide_eq_true (by first | (with_reducible assumption) | assumption)
                    have q7 : x5_1 < (a0.size : Int) := of_decide_eq_true (by first | (with_reducible assumption) | assumption)
                    have hx7 := bt_at a0 x5_1
                    replace p7 := eq_true p7
                    replace q7 := eq_true q7
                    have p9 : 0 ≤ (x5_1 : Int) := of_decide_eq_true (by first | (with_reducible assumption) | assumption)
                    have q9 : x5_1 < (a0.size : Int) := of_decide_eq_true (by first | (with_reducible assumption) | assumption)
                    have hx9 := bt_at a0 x5_1
                    replace p9 := eq_true p9
                    replace q9 := eq_true q9
                    have p11 : 0 ≤ (x5_1 : Int) := of_decide_eq_true (by first | (with_reducible assumption) | assumption)
                    have q11 : x5_1 < (a0.size : Int) := of_decide_eq_true (by first | (with_reducible assumption) | assumption)
                    have hx11 := bt_at a0 x5_1
                    replace p11 := eq_true p11
                    replace q11 := eq_true q11
                    go_wp2
                    go_roundg kj1
                    case measure => have := HK1.out; have := HJ1.out; omega
                    case rel => exact ⟨(wrap64 ((wrap64 (x4_1 * 8)) + (((bt a0 x5_1) - 48) % 256))), (wrap64 (x5_1 + 1)), (by first | rfl | (simp; done) | (simp [*]; done)), (by first | rfl | (simp; done) | (simp [*]; done)), H', ⟨by have := HK1.out; have := HJ1.out; omega⟩, by repeat (first | exact Drawn0.refl _ | apply Drawn0.step)⟩
              · rw [if_neg c6] at H
                exact absurd H (by simp)
            · rw [if_neg c5] at H
              exact absurd H (by simp)
          · replace c4 := Bool.eq_false_iff.mpr c4
            subst c4
            have H1 : (if (a0.size : Int) < 1 then (some (0, false)) else (if (a0.size : Int) > 11 then (some (0, false)) else (some (x4_1, true)))) = some (r1, r2) := by rw [if_neg (show ¬ (false = true) by decide)] at H; exact H
            clear H
            have H := H1
            clear H1
            by_cases c12 : (a0.size : Int) < 1
            · rw [if_pos c12] at H
              have c12b0 : decide ((a0.size : Int) < 1) = true := decide_eq_true c12
              have c12b1 : decide (a0.size < 1) = true := decide_eq_true (by omega)
              clear c12
              simp only [Option.some.injEq, Prod.mk.injEq] at H
              obtain ⟨rfl, rfl⟩ := H
              go_wp2
              go_ret2
              exact ⟨by first | rfl | (simp; done) | (simp [*]; done), by repeat (first | exact Drawn0.refl _ | apply Drawn0.step)⟩
            · rw [if_neg c12] at H
              have c12b0 : decide ((a0.size : Int) < 1) = false := decide_eq_false c12
              have c12b1 : decide (a0.size < 1) = false := decide_eq_false (by omega)
              clear c12
              by_cases c13 : (a0.size : Int) > 11
              · rw [if_pos c13] at H
                have c13b0 : decide (11 < (a0.size : Int)) = true := decide_eq_true c13
                have c13b1 : decide (11 < a0.size) = true := decide_eq_true (by omega)
                clear c13
                simp only [Option.some.injEq, Prod.mk.injEq] at H
                obtain ⟨rfl, rfl⟩ := H
                go_wp2
                go_ret2
                exact ⟨by first | rfl | (simp; done) | (simp [*]; done), by repeat (first | exact Drawn0.refl _ | apply Drawn0.step)⟩
              · rw [if_neg c13] at H
                have c13b0 : decide (11 < (a0.size : Int)) = false := decide_eq_false c13
                have c13b1 : decide (11 < a0.size) = false := decide_eq_false (by omega)
                clear c13
                simp only [Option.some.injEq, Prod.mk.injEq] at H
                obtain ⟨rfl, rfl⟩ := H
                go_wp2
                go_ret2
                exact ⟨by first | rfl | (simp; done) | (simp [*]; done), by repeat (first | exact Drawn0.refl _ | apply Drawn0.step)⟩

end Go.Proofs.YtidlgdpjcognpaaDoor.P

/- Numbers in digits of base 8, as the printed functions of head and of its document tell them. -/
namespace Go.Proofs.YtidlgdpjcognpaaDoor.X
open Go.RowKit Go.Proofs.YtidlgdpjcognpaaDoorW.PrintWords Go.Proofs.YtidlgdpjcognpaaDoor.P
set_option linter.unusedVariables false
set_option linter.unusedSimpArgs false

def octP : Nat → Nat → List UInt8
  | 0, _ => []
  | n + 1, u => octP n (u / 8) ++ [dch (u % 8)]
theorem octP_length : ∀ n u, (octP n u).length = n
  | 0, _ => rfl
  | n + 1, u => by rw [octP, List.length_append, octP_length n]; rfl
theorem octP_zero : ∀ n, octP n 0 = List.replicate n (dch 0)
  | 0 => rfl
  | n + 1 => by rw [octP, Nat.zero_div, octP_zero n, List.replicate_succ']
theorem pad_oct : ∀ n u, 0 < n → u < 8 ^ n → (digitsOf 8 u).length ≤ n ∧ List.replicate (n - (digitsOf 8 u).length) (dch 0) ++ digitsOf 8 u = octP n u
  | 0, _, h, _ => absurd h (by omega)
  | 1, u, _, hu => by
    rw [digitsOf_lt (by simpa using hu)]
    have : u % 8 = u := Nat.mod_eq_of_lt (by simpa using hu)
    simp [octP, this]
  | n + 2, u, _, hu => by
    by_cases h : u < 8
    · rw [digitsOf_lt h]
      refine ⟨by simp, ?_⟩
      rw [octP, Nat.div_eq_of_lt h, octP_zero, Nat.mod_eq_of_lt h]
      rfl
    · have hd : u / 8 < 8 ^ (n + 1) := by
        rw [Nat.div_lt_iff_lt_mul (by omega)]
        calc u < 8 ^ (n + 2) := hu
          _ = 8 ^ (n + 1) * 8 := Nat.pow_succ ..
      obtain ⟨hl, he⟩ := pad_oct (n + 1) (u / 8) (by omega) hd
      rw [digitsOf_ge (by omega) (by omega)]
      refine ⟨by simp; omega, ?_⟩
      rw [octP, ← he, List.length_append, ← List.append_assoc]
      simp
theorem oct_long : ∀ n u, 0 < n → 8 ^ n ≤ u → n < (digitsOf 8 u).length
  | 0, _, h, _ => absurd h (by omega)
  | 1, u, _, hu => by
    rw [digitsOf_ge (by omega) (by omega), List.length_append]
    have : 0 < (digitsOf 8 (u / 8)).length := by unfold digitsOf; split <;> simp
    simp; omega
  | n + 2, u, _, hu => by
    have h8 : 8 ^ (n + 2) = 8 ^ (n + 1) * 8 := Nat.pow_succ ..
    have hp : 0 < 8 ^ (n + 1) := Nat.pow_pos (by omega)
    have hd : 8 ^ (n + 1) ≤ u / 8 := by rw [Nat.le_div_iff_mul_le (by omega)]; omega
    have := oct_long (n + 1) (u / 8) (by omega) hd
    rw [digitsOf_ge (by omega) (by omega), List.length_append]
    simp; omega
/-- A number's digits, or a refusal. -/
def octR (a0 a1 : Int) : ByteArray × Bool := if 0 ≤ a0 ∧ 1 ≤ a1 ∧ a1 ≤ 11 ∧ a0.toNat < 8 ^ a1.toNat then (⟨(octP a1.toNat a0.toNat).toArray⟩, true) else (⟨#[]⟩, false)
theorem octal_eq (k : Nat) (a0 a1 : Int) (h0 : a0 < 9223372036854775808) : head_Octal.f (k + 1) a0 a1 = some (octR a0 a1) := by
  unfold head_Octal.f
  by_cases c1 : a0 < 0
  · rw [if_pos c1, octR, if_neg (by omega)]; simp [head_Octal.j0]
  rw [if_neg c1]
  by_cases c2 : a1 < 1
  · rw [if_pos c2, octR, if_neg (by omega)]; simp [head_Octal.j0]
  rw [if_neg c2]
  by_cases c3 : a1 > 11
  · rw [decide_eq_true c3, octR, if_neg (by omega)]; simp [head_Octal.j0]
  rw [decide_eq_false c3]
  obtain ⟨n, rfl⟩ := Int.eq_ofNat_of_zero_le (show 0 ≤ a0 by omega)
  obtain ⟨d, rfl⟩ := Int.eq_ofNat_of_zero_le (show 0 ≤ a1 by omega)
  have hf : strconv_FormatInt.f (n : Int) 8 = some ⟨(digitsOf 8 n).toArray⟩ := by
    unfold strconv_FormatInt.f
    rw [if_pos ⟨by omega, h0, rfl⟩]; rfl
  simp only [head_Octal.j0]
  rw [if_neg (by simp), hf]
  simp only [Option.bind_some]
  have hs : (⟨(digitsOf 8 n).toArray⟩ : ByteArray).size = (digitsOf 8 n).length := by simp [ByteArray.size]
  rw [hs]
  by_cases c4 : n < 8 ^ d
  · obtain ⟨hl, he⟩ := pad_oct d n (by omega) c4
    rw [if_neg (by omega), octR, if_pos ⟨by omega, by omega, by omega, by simpa using c4⟩]
    have hw : wrap64 ((d : Int) - ((digitsOf 8 n).length : Int)) = ((d - (digitsOf 8 n).length : Nat) : Int) := by unfold wrap64; omega
    have hr : strings_Repeat.f (⟨#[48]⟩ : ByteArray) ((d - (digitsOf 8 n).length : Nat) : Int) = some ⟨(List.replicate (d - (digitsOf 8 n).length) (dch 0)).toArray⟩ := by
      unfold strings_Repeat.f
      have h1 : (⟨#[48]⟩ : ByteArray).size = 1 := rfl
      rw [h1, if_pos ⟨by omega, by omega, by simp; omega⟩]
      have := repeatL_zero (d - (digitsOf 8 n).length)
      simp only [Int.toNat_natCast]
      rw [← this]
    rw [hw, hr]
    simp only [Option.bind_some]
    have h2 : (⟨(List.replicate (d - (digitsOf 8 n).length) (dch 0)).toArray⟩ : ByteArray).size = d - (digitsOf 8 n).length := by simp [ByteArray.size]
    rw [if_pos (by rw [h2]; omega)]
    have h3 : (⟨(List.replicate (d - (digitsOf 8 n).length) (dch 0)).toArray⟩ : ByteArray) ++ ⟨(digitsOf 8 n).toArray⟩ = ⟨(octP d n).toArray⟩ := by
      rw [← he]; apply ByteArray.ext; simp
    rw [h3]
    rfl
  · have hl := oct_long d n (by omega) (by omega)
    rw [if_pos (by omega), octR, if_neg (by simp; omega)]

theorem octP_front : ∀ n u, octP (n + 1) u = dch (u / 8 ^ n % 8) :: octP n u
  | 0, u => by simp [octP]
  | n + 1, u => by
    rw [octP, octP_front n (u / 8), octP, Nat.div_div_eq_div_mul, Nat.pow_succ, Nat.mul_comm 8]
    rfl
theorem ext_oct (r : Nat) (h : r < 8) : (⟨#[48, 49, 50, 51, 52, 53, 54, 55]⟩ : ByteArray).extract r (r + 1) = ⟨#[dch r]⟩ := by
  have : ∀ i : Fin 8, (⟨#[48, 49, 50, 51, 52, 53, 54, 55]⟩ : ByteArray).extract i.val (i.val + 1) = ⟨#[dch i.val]⟩ := by decide +kernel
  exact this ⟨r, h⟩
theorem oct_words (n M : Nat) (hn : n < 9223372036854775808) : n / M % 8 < 8 ∧ wrap64 (((n / M % 8 : Nat) : Int) + 1) = ((n / M % 8 + 1 : Nat) : Int) ∧ wrap64 ((n / M / 8 : Nat) : Int) = ((n / M / 8 : Nat) : Int) ∧ ((n / M % 8 : Nat) : Int) ≤ ((n / M % 8 + 1 : Nat) : Int) ∧ (0 : Int) ≤ ((n / M % 8 : Nat) : Int) ∧ ((n / M % 8 + 1 : Nat) : Int) ≤ 8 := by
  have hq : n / M ≤ n := Nat.div_le_self _ _
  generalize n / M = q at *
  refine ⟨by omega, by unfold wrap64; omega, by unfold wrap64; omega, by omega, by omega, by omega⟩
theorem oct_step (i d : Nat) (h : i < d) (hd : d ≤ 11) : wrap64 ((i : Int) + 1) = ((i + 1 : Nat) : Int) ∧ (i : Int) < (d : Int) := by
  refine ⟨by unfold wrap64; omega, by omega⟩
theorem ref_octal_l0 (n d : Nat) (hn : n < 9223372036854775808) (hd : d ≤ 11) : ∀ (e k i : Nat), d - i = e → i ≤ d → e < k →
    hogsheadref12_Octal.l0 k ((n / 8 ^ i : Nat) : Int) d ⟨(octP i n).toArray⟩ i = some (if n < 8 ^ d then (⟨(octP d n).toArray⟩, true) else (⟨#[]⟩, false)) := by
  intro e
  induction e with
  | zero =>
    intro k i he hi hk
    obtain ⟨k, rfl⟩ : ∃ m, k = m + 1 := ⟨k - 1, by omega⟩
    obtain rfl : i = d := by omega
    simp only [hogsheadref12_Octal.l0]
    rw [if_neg (by omega)]
    have hp : 0 < 8 ^ i := Nat.pow_pos (by omega)
    by_cases c : n < 8 ^ i
    · have : n / 8 ^ i = 0 := Nat.div_eq_of_lt c
      rw [this, if_neg (by simp), if_pos c]
    · have : 0 < n / 8 ^ i := Nat.div_pos (by omega) hp
      rw [if_pos (by omega), if_neg c]
  | succ e ih =>
    intro k i he hi hk
    obtain ⟨k, rfl⟩ : ∃ m, k = m + 1 := ⟨k - 1, by omega⟩
    simp only [hogsheadref12_Octal.l0]
    have em : Int.tmod ((n / 8 ^ i : Nat) : Int) 8 = ((n / 8 ^ i % 8 : Nat) : Int) := rfl
    have ed : Int.tdiv ((n / 8 ^ i : Nat) : Int) 8 = ((n / 8 ^ i / 8 : Nat) : Int) := rfl
    rw [em, ed]
    have hn2 : n / 8 ^ (i + 1) = n / 8 ^ i / 8 := by rw [Nat.div_div_eq_div_mul, Nat.pow_succ]
    have hf := octP_front i n
    obtain ⟨hr, hw, hw2, c2, c3, c4⟩ := oct_words n (8 ^ i) hn
    obtain ⟨hw3, c1⟩ := oct_step i d (by clear hn2 hf em ed c2 c3 c4 hw hw2 hr ih; omega) hd
    rw [hw, hw2, hw3]
    generalize n / 8 ^ i % 8 = r at *
    rw [if_pos c1, if_pos c3, if_pos c2, if_pos c4]
    simp only [Int.toNat_natCast]
    rw [ext_oct r hr]
    have hl := octP_length i n
    have e1 : (⟨#[dch r]⟩ : ByteArray).size = 1 := rfl
    have h9 : 1 + i ≤ 9223372036854775807 := by clear hn2 hf em ed c2 c3 c4 hw hw2 hr ih; omega
    rw [if_pos (by rw [e1, size_mk, hl]; exact h9)]
    have e2 : (⟨#[dch r]⟩ : ByteArray) ++ ⟨(octP i n).toArray⟩ = ⟨(octP (i + 1) n).toArray⟩ := by rw [hf]; exact append_mk [dch r] (octP i n)
    rw [e2, ← hn2]
    clear hn2 hf em ed c2 c3 c4 hw hw2 hr e2 h9 e1 hl
    exact ih k (i + 1) (by clear ih; omega) (by clear ih; omega) (by clear ih; omega)
theorem ref_octal_eq (k : Nat) (hk : 14 ≤ k) (a0 a1 : Int) (h0 : a0 < 9223372036854775808) : hogsheadref12_Octal.f k a0 a1 = some (octR a0 a1) := by
  obtain ⟨k, rfl⟩ : ∃ m, k = m + 1 := ⟨k - 1, by omega⟩
  unfold hogsheadref12_Octal.f
  by_cases c1 : a0 < 0
  · rw [if_pos c1, octR, if_neg (by omega)]; simp [hogsheadref12_Octal.j0]
  rw [if_neg c1]
  by_cases c2 : a1 < 1
  · rw [if_pos c2, octR, if_neg (by omega)]; simp [hogsheadref12_Octal.j0]
  rw [if_neg c2]
  by_cases c3 : a1 > 11
  · rw [decide_eq_true c3, octR, if_neg (by omega)]; simp [hogsheadref12_Octal.j0]
  rw [decide_eq_false c3]
  obtain ⟨n, rfl⟩ := Int.eq_ofNat_of_zero_le (show 0 ≤ a0 by omega)
  obtain ⟨d, rfl⟩ := Int.eq_ofNat_of_zero_le (show 0 ≤ a1 by omega)
  simp only [hogsheadref12_Octal.j0]
  rw [if_neg (by simp)]
  have := ref_octal_l0 n d (by omega) (by omega) d k 0 (by omega) (by omega) (by omega)
  rw [Nat.pow_zero, Nat.div_one] at this
  rw [show ((0 : Nat) : Int) = 0 from rfl, show (octP 0 n).toArray = #[] from rfl] at this
  rw [this, octR]
  congr 1
  by_cases c4 : n < 8 ^ d
  · rw [if_pos c4, if_pos ⟨by omega, by omega, by omega, by simpa using c4⟩]; rfl
  · rw [if_neg c4, if_neg (by simp; omega)]
end Go.Proofs.YtidlgdpjcognpaaDoor.X

/- What head and its document read back of digits of base 8. -/
namespace Go.Proofs.YtidlgdpjcognpaaDoor.X
open Go.RowKit Go.Proofs.YtidlgdpjcognpaaDoorW.PrintWords Go.Proofs.YtidlgdpjcognpaaDoor.P
set_option linter.unusedVariables false
set_option linter.unusedSimpArgs false

/-- The number of digits of base 8, behind a number. -/
def octV : List UInt8 → Nat → Option Nat
  | [], n => some n
  | c :: l, n => if 48 ≤ c.toNat ∧ c.toNat ≤ 55 then octV l (8 * n + (c.toNat - 48)) else none
def ofOctR (s : ByteArray) : Int × Bool := if 1 ≤ s.size ∧ s.size ≤ 11 then (match octV s.data.toList 0 with | some n => ((n : Int), true) | none => (0, false)) else (0, false)
theorem pow8_le (i : Nat) (hi : i < 11) : 8 ^ (i + 1) ≤ 8589934592 := by
  have := Nat.pow_le_pow_right (n := 8) (by omega) (show i + 1 ≤ 11 by omega)
  exact this
theorem oct_up (x c i M : Nat) (hx : x < M) (hM : M * 8 ≤ 8589934592) (h1 : 48 ≤ c) (h2 : c ≤ 55) (hi : i < 11) :
    wrap64 (wrap64 (8 * (x : Int)) + ((c : Int) - 48) % 256) = ((8 * x + (c - 48) : Nat) : Int) ∧ wrap64 (wrap64 ((x : Int) * 8) + ((c : Int) - 48) % 256) = ((8 * x + (c - 48) : Nat) : Int) ∧ wrap64 ((i : Int) + 1) = ((i + 1 : Nat) : Int) ∧ 8 * x + (c - 48) < M * 8 := by
  refine ⟨by unfold wrap64; omega, by unfold wrap64; omega, by unfold wrap64; omega, by omega⟩
theorem ofOctal_l0 (s : ByteArray) (hs : s.size ≤ 11) : ∀ (d k i x : Nat), s.size - i = d → i ≤ s.size → x < 8 ^ i → d < k →
    head_OfOctal.l0 k s (x : Int) (s.size : Int) (i : Int) = some (match octV (s.data.toList.drop i) x with | some n => ((n : Int), true) | none => (0, false)) := by
  intro d
  induction d with
  | zero =>
    intro k i x hd hi hx hk
    obtain ⟨k, rfl⟩ : ∃ m, k = m + 1 := ⟨k - 1, by omega⟩
    simp only [head_OfOctal.l0]
    rw [if_neg (by omega), List.drop_eq_nil_of_le (by rw [data_length]; omega)]
    rfl
  | succ d ih =>
    intro k i x hd hi hx hk
    obtain ⟨k, rfl⟩ : ∃ m, k = m + 1 := ⟨k - 1, by omega⟩
    have hlt : i < s.size := by omega
    simp only [head_OfOctal.l0]
    rw [if_pos (by omega), if_pos (by omega), if_pos (by omega), bt_nat s i hlt, drop_data s i hlt]
    generalize s.data.toList[i]'(by rw [data_length]; exact hlt) = c
    rw [octV]
    by_cases h1 : c.toNat < 48
    · rw [if_pos (by omega), if_neg (by omega)]
    by_cases h2 : 55 < c.toNat
    · rw [if_neg (by omega), if_pos (by omega), if_neg (by omega)]
    rw [if_neg (by omega), if_neg (by omega), if_pos (by omega)]
    obtain ⟨e1, _, e2, e3⟩ := oct_up x c.toNat i (8 ^ i) hx (by rw [← Nat.pow_succ]; exact pow8_le i (by clear ih hx; omega)) (by clear ih hx; omega) (by clear ih hx; omega) (by clear ih hx; omega)
    rw [e1, e2]
    exact ih k (i + 1) _ (by clear ih hx e1 e2 e3; omega) (by clear ih hx e1 e2 e3; omega) (by rw [Nat.pow_succ]; exact e3) (by clear ih hx e1 e2 e3; omega)
theorem ofOctal_eq (s : ByteArray) : Ev (fun k => head_OfOctal.f k s) (ofOctR s) := by
  refine ⟨14, fun k hk => ?_⟩
  obtain ⟨k, rfl⟩ : ∃ m, k = m + 1 := ⟨k - 1, by omega⟩
  show head_OfOctal.f _ s = _
  unfold head_OfOctal.f ofOctR
  by_cases h1 : s.size < 1
  · rw [if_pos (by omega), if_neg (by omega)]; simp [head_OfOctal.j0]
  rw [if_neg (by omega)]
  by_cases h2 : 11 < s.size
  · rw [if_neg (by omega), decide_eq_true (by omega)]; simp [head_OfOctal.j0]
  rw [if_pos (by omega), decide_eq_false (by omega)]
  have := ofOctal_l0 s (by omega) s.size k 0 0 (by omega) (by omega) (by decide) (by omega)
  simp only [head_OfOctal.j0]
  rw [if_neg (by simp)]
  exact this
theorem ref_ofOctal_l0 (s : ByteArray) (hs : s.size ≤ 11) (hs1 : 1 ≤ s.size) : ∀ (d k i x : Nat), s.size - i = d → i ≤ s.size → x < 8 ^ i → 2 * d + 1 < k →
    hogsheadref12_OfOctal.l0 k s (x : Int) (i : Int) = some (match octV (s.data.toList.drop i) x with | some n => ((n : Int), true) | none => (0, false)) := by
  intro d
  induction d with
  | zero =>
    intro k i x hd hi hx hk
    obtain ⟨k, rfl⟩ : ∃ m, k = m + 1 + 1 := ⟨k - 2, by omega⟩
    simp only [hogsheadref12_OfOctal.l0]
    rw [if_neg (by omega), List.drop_eq_nil_of_le (by rw [data_length]; omega)]
    simp only [hogsheadref12_OfOctal.j1]
    rw [if_neg (by simp), if_neg (by omega), if_neg (by omega)]
    rfl
  | succ d ih =>
    intro k i x hd hi hx hk
    obtain ⟨k, rfl⟩ : ∃ m, k = m + 1 + 1 := ⟨k - 2, by omega⟩
    have hlt : i < s.size := by omega
    simp only [hogsheadref12_OfOctal.l0]
    rw [if_pos (by omega), decide_eq_true (by omega)]
    simp only [hogsheadref12_OfOctal.j1]
    rw [if_pos trivial, if_pos (by omega), if_pos (by omega), bt_nat s i hlt, drop_data s i hlt]
    generalize s.data.toList[i]'(by rw [data_length]; exact hlt) = c
    rw [octV]
    by_cases h1 : c.toNat < 48
    · rw [if_pos (by omega), if_neg (by omega)]
    by_cases h2 : 55 < c.toNat
    · rw [if_neg (by omega), if_pos (by omega), if_neg (by omega)]
    rw [if_neg (by omega), if_neg (by omega), if_pos (by omega)]
    obtain ⟨_, e1, e2, e3⟩ := oct_up x c.toNat i (8 ^ i) hx (by rw [← Nat.pow_succ]; exact pow8_le i (by clear ih hx; omega)) (by clear ih hx; omega) (by clear ih hx; omega) (by clear ih hx; omega)
    rw [e1, e2]
    exact ih k (i + 1) _ (by clear ih hx e1 e2 e3; omega) (by clear ih hx e1 e2 e3; omega) (by rw [Nat.pow_succ]; exact e3) (by clear ih hx e1 e2 e3; omega)
theorem ref_ofOctal_eq (s : ByteArray) : Ev (fun k => hogsheadref12_OfOctal.f k s) (ofOctR s) := by
  refine ⟨30, fun k hk => ?_⟩
  show hogsheadref12_OfOctal.f _ s = _
  unfold hogsheadref12_OfOctal.f ofOctR
  by_cases h : 1 ≤ s.size ∧ s.size ≤ 11
  · rw [if_pos h]
    exact ref_ofOctal_l0 s (by omega) (by omega) s.size k 0 0 (by omega) (by omega) (by decide) (by omega)
  · rw [if_neg h]
    obtain ⟨k, rfl⟩ : ∃ m, k = m + 1 + 1 := ⟨k - 2, by omega⟩
    simp only [hogsheadref12_OfOctal.l0]
    by_cases h1 : s.size < 1
    · rw [if_neg (by omega)]
      simp only [hogsheadref12_OfOctal.j1]
      rw [if_neg (by simp), if_pos (by omega)]
    · rw [if_pos (by omega), decide_eq_false (by omega)]
      simp only [hogsheadref12_OfOctal.j1]
      rw [if_neg (by simp), if_neg (by omega), if_pos (by omega)]

theorem dch_oct (u : Nat) (h : u < 8) : (dch u).toNat = 48 + u := by
  have : ∀ i : Fin 8, (dch i.val).toNat = 48 + i.val := by decide
  exact this ⟨u, h⟩
theorem octV_octP : ∀ n u x, octV (octP n u) x = some (8 ^ n * x + u % 8 ^ n)
  | 0, u, x => by simp [octP, octV, Nat.mod_one]
  | n + 1, u, x => by
    rw [octP_front, octV]
    have h8 : u / 8 ^ n % 8 < 8 := Nat.mod_lt _ (by omega)
    rw [dch_oct _ h8, if_pos (by omega), octV_octP n]
    congr 1
    have e : 48 + u / 8 ^ n % 8 - 48 = u / 8 ^ n % 8 := by omega
    rw [e, Nat.mul_add, Nat.pow_succ, Nat.mod_mul]
    rw [← Nat.mul_assoc, Nat.add_assoc]
    congr 1
    omega
theorem ofOct_octP (n u : Nat) (h1 : 1 ≤ n) (h2 : n ≤ 11) (hu : u < 8 ^ n) : ofOctR ⟨(octP n u).toArray⟩ = ((u : Int), true) := by
  unfold ofOctR
  rw [size_mk, octP_length, if_pos ⟨h1, h2⟩]
  show (match octV (octP n u) 0 with | some n => ((n : Int), true) | none => (0, false)) = _
  rw [octV_octP, Nat.mul_zero, Nat.zero_add, Nat.mod_eq_of_lt hu]
end Go.Proofs.YtidlgdpjcognpaaDoor.X

/- A buffer of 512 bytes in a block of the call's own, filled by copies of texts. -/
namespace Go.Proofs.YtidlgdpjcognpaaDoor.X
open Go.RowKit Go.Proofs.YtidlgdpjcognpaaDoorW.PrintWords
set_option linter.unusedVariables false

theorem calls_of_len {P : Program} {f : FuncId} {A : Option Addr} {n n' c : Nat} {w : World} {Q : Ending → World → Prop} (h : n' = n) (hc : Calls P f #[.slice A n' c] w Q) : Calls P f #[.slice A n c] w Q := h ▸ hc
def putB (xs : List Int) (p : Nat) (s : ByteArray) : List Int := xs.take p ++ bytesOf s ++ xs.drop (p + s.size)
theorem putB_length {xs : List Int} {p : Nat} {s : ByteArray} (h : p + s.size ≤ xs.length) : (putB xs p s).length = xs.length := by
  simp only [putB, List.length_append, List.length_take, List.length_drop, bytesOf_length]
  omega
structure Buf (w0 w : World) (g : Nat) (xs : List Int) : Prop where
  below : Below w0.heap.size w0 w
  old : w0.heap.size ≤ g
  row : w.heap[g]? = some (.cells (nums .u8 xs).toArray 5 (0, 0))
  len : xs.length = 512
theorem Buf.lt {w0 w : World} {g : Nat} {xs : List Int} (h : Buf w0 w g xs) : g < w.heap.size := (Array.getElem?_eq_some_iff.1 h.row).1
theorem Buf.step {w0 w w1 : World} {g : Nat} {xs : List Int} (h : Buf w0 w g xs) (hb : Below w.heap.size w w1) : Buf w0 w1 g xs :=
  ⟨below_step h.below hb, h.old, (hb.block g h.lt).trans h.row, h.len⟩
theorem nums_put (xs : List Int) (p : Nat) (s : ByteArray) : ((nums .u8 xs).toArray.toList.take p ++ Lib.byteCells s.data.toList ++ (nums .u8 xs).toArray.toList.drop (p + s.size)).toArray = (nums .u8 (putB xs p s)).toArray := by
  simp [nums, putB, bytesOf, Lib.byteCells, List.map_take, List.map_drop]
theorem Buf.put {w0 w : World} {g : Nat} {xs : List Int} (h : Buf w0 w g xs) (p : Nat) (s : ByteArray) (hp : p + s.size ≤ 512) (ty : TypeId) (m c : Nat) (hm : s.size ≤ m) :
    ∃ w', (Builtin.copy_ #[22, 9] ty #[.slice (some ⟨g, p, none⟩) m c, .string s]).run Tryd.prog w = .ok (goInt s.size) w' ∧ Buf w0 w' g (putB xs p s) ∧ w'.heap.size = w.heap.size ∧ ∀ k, k ≠ g → w'.heap[k]? = w.heap[k]? := by
  have hsz : (nums .u8 xs).toArray.size = 512 := by simp [nums, h.len]
  refine ⟨_, Lib.run_copy_row_string w 22 9 ty 5 g p m c s _ _ Tryd.underlying22 (by kernel_rfl) h.row hm (by rw [hsz]; exact hp), ⟨below_setRow h.below h.old _, h.old, ?_, ?_⟩, by simp, fun k hk => setRow_other _ _ _ _ hk⟩
  · rw [setRow_heap _ _ _ _ _ _ h.row, nums_put]
  · rw [putB_length (by rw [h.len]; exact hp)]; exact h.len
theorem Buf.R {w0 w : World} {g : Nat} {xs : List Int} (h : Buf w0 w g xs) : (Kd.int .u8).R 5 w w0.heap.size (fun _ => True) (.slice (some ⟨g, 0, none⟩) 512 512) xs := by
  refine Kd.R_of_own (enc := Value.int .u8) (h1 := fun _ => rfl) ⟨by simp [encs], .inr ⟨g, 512, (nums .u8 xs).toArray, by rw [h.len], h.old, h.row, by rw [h.len]; exact Nat.le_refl _, by decide, by simp [nums, h.len], ?_⟩⟩ (fun _ _ => trivial)
  rw [Nat.mul_one, h.len]
  have e : (nums .u8 xs).length = 512 := by simp [nums, h.len]
  show (nums .u8 xs).take 512 = _
  rw [List.take_of_length_le (by omega)]
  rfl
theorem Buf.cell {w0 w : World} {g : Nat} {xs : List Int} (h : Buf w0 w g xs) (i : Nat) (hi : i < 512) : w.cell? ⟨g, i, none⟩ = some (.int .u8 (rd xs i)) := by
  have hl : i < xs.length := by rw [h.len]; exact hi
  simp [World.cell?, h.row, nums, rd, List.getD_eq_getElem?_getD, hl]

def sumB (xs : List Int) (s : Int := 0) : Int := xs.foldl (fun s x => wrap64 (s + wrap64 x)) s
theorem sumB_take (xs : List Int) (i : Nat) (h : i < xs.length) : sumB (xs.take (i + 1)) = wrap64 (sumB (xs.take i) + wrap64 (rd xs (i : Int))) := by
  have e : rd xs (i : Int) = xs[i] := by simp [rd, List.getD_eq_getElem?_getD, h]
  rw [List.take_succ_eq_append_getElem h, e]
  unfold sumB
  rw [List.foldl_append]
  rfl
def zeros512 : List Int := List.replicate 512 0
set_option maxRecDepth 100000 in
theorem make512 (W : World) : (Instr.makeSlice 22 (.int .i64 512) (.int .i64 512)).run Tryd.prog W = .ok (.slice (some ⟨W.heap.size, 0, none⟩) 512 512) (W.alloc (.cells (nums .u8 zeros512).toArray 5)) := by
  have hi0 : (Tryd.prog.info? 5).map (fun i => (i.zero, i.size, i.bytes)) = some (some (.int .u8 0), 1, 1) := by kernel_rfl
  obtain ⟨i, hi, he⟩ := Option.map_eq_some_iff.1 hi0
  obtain ⟨hz, he⟩ := Prod.mk.inj he
  obtain ⟨hs, hby⟩ := Prod.mk.inj he
  have := run_make (P := Tryd.prog) W 22 5 i (.int .u8 0) Tryd.underlying22 hi hz .i64 .i64 512 512 (by omega) (by omega) (by rw [hby]; decide) (by omega)
  rw [this, hs]
  have e : madeCells (Value.int .u8 0).cells (512 * 1) = (nums .u8 zeros512).toArray := by kernel_rfl
  show Result.ok _ (W.alloc (.cells (madeCells (Value.int .u8 0).cells (512 * 1)) _)) = _
  rw [e]
  rfl
/-- The buffer as it is made, and its box. -/
theorem Buf.made {w0 w : World} (hb : Below w0.heap.size w0 w) (v : Value) : Buf w0 ((w.alloc (.cells (nums .u8 zeros512).toArray 5)).alloc (.cells #[v] 22)) w.heap.size zeros512 :=
  ⟨below_alloc (below_alloc hb _) _, hb.size, by show ((w.heap.push _).push _)[w.heap.size]? = _; rw [Array.getElem?_push, if_neg (by rw [Array.size_push]; omega), Array.getElem?_push, if_pos rfl], by rw [zeros512, List.length_replicate]⟩

theorem Buf.free {w0 w : World} {g : Nat} {xs : List Int} (h : Buf w0 w g xs) (i : Nat) : w.frozen? ⟨g, i, none⟩ = false := by
  simp [World.frozen?, h.row]
theorem Buf.set {w0 w : World} {g : Nat} {xs : List Int} (h : Buf w0 w g xs) (i : Nat) (v : Int) : Buf w0 (w.setCell ⟨g, i, none⟩ (.int .u8 v)) g (xs.set i v) := by
  have e := setCell_eq_setRow w g i _ _ _ (.int .u8 v) h.row
  rw [e]
  refine ⟨below_setRow h.below h.old _, h.old, ?_, by rw [List.length_set]; exact h.len⟩
  rw [setRow_heap _ _ _ _ _ _ h.row]
  congr 2
  simp [nums, List.map_set]

/-- The buffer as it is made, without a box. -/
theorem Buf.made1 {w0 w : World} (hb : Below w0.heap.size w0 w) : Buf w0 (w.alloc (.cells (nums .u8 zeros512).toArray 5)) w.heap.size zeros512 :=
  ⟨below_alloc hb _, hb.size, by show (w.heap.push _)[w.heap.size]? = _; rw [Array.getElem?_push, if_pos rfl], by rw [zeros512, List.length_replicate]⟩
/-- A copy of a text into the buffer, met by the walk. -/
theorem upon_put {w0 W : World} {g : Nat} {xs : List Int} (hF : Buf w0 W g xs) (p : Nat) (s : ByteArray) (hp : p + s.size ≤ 512) {o : Oper} {a : Act} {K : Act → World → Prop} {Q : Exit → Act → World → Prop} {f : Value → World → Result Next} {ty : TypeId} {m c : Nat} (hm : s.size ≤ m)
    (h : ∀ W', Buf w0 W' g (putB xs p s) → W'.heap.size = W.heap.size → Oper.upon Tryd.prog o a K Q ((Result.ok (goInt s.size) W').andThen f)) :
    Oper.upon Tryd.prog o a K Q (((Builtin.copy_ #[22, 9] ty #[.slice (some ⟨g, p, none⟩) m c, .string s]).run Tryd.prog W).andThen f) := by
  obtain ⟨W', hr, hb, hs, _⟩ := hF.put p s hp ty m c hm
  rw [hr]
  exact h W' hb hs

set_option maxHeartbeats 1600000 in
set_option maxRecDepth 100000 in
theorem put_calls (w0 w : World) (g bx : Nat) (xs : List Int) (pi : Int) (p : Nat) (hpi : pi = (p : Int)) (s : ByteArray) (hb : Buf w0 w g xs) (hx : w.heap[bx]? = some (.cells #[.slice (some ⟨g, 0, none⟩) 512 512] 22 (0, 0))) (hne : bx ≠ g) (hp : p + s.size ≤ 512) (hp2 : p < 512) :
    Calls Tryd.prog 38 #[.int .i64 pi, .string s, .pointer (some ⟨bx, 0, none⟩)] w fun e w' => e = .returned (.tuple #[]) ∧ Buf w0 w' g (putB xs p s) ∧ w'.heap.size = w.heap.size ∧ w'.heap[bx]? = some (.cells #[.slice (some ⟨g, 0, none⟩) 512 512] 22 (0, 0)) := by
  subst hpi
  have hc := cell_of_one hx
  have hn : ¬ (512 : Nat) = p := by omega
  obtain ⟨w1, hcp, hb1, hs1, ho1⟩ := hb.put p s hp 3 (512 - p) (512 - p) (by omega)
  go_enter Tryd.func38, Tryd.ntmps38
  go_wp2_with fail
  go_end0
  exact ⟨rfl, hb1, hs1, (ho1 bx hne).trans hx⟩
theorem tail_fits (q : ByteArray) (h : q.size + 2 ≤ 364) : 148 + (q ++ (⟨#[0, 32]⟩ : ByteArray)).size ≤ 512 := by
  have e0 : (⟨#[0, 32]⟩ : ByteArray).size = 2 := rfl
  rw [ByteArray.size_append, e0]
  omega
theorem tail_fits2 (q : ByteArray) (h : q.size + 2 ≤ 364) : (q ++ (⟨#[0, 32]⟩ : ByteArray)).size ≤ 364 := by
  have := tail_fits q h
  omega
theorem put_tail (w0 w : World) (g bx : Nat) (xs : List Int) (q : ByteArray) (hb : Buf w0 w g xs) (hx : w.heap[bx]? = some (.cells #[.slice (some ⟨g, 0, none⟩) 512 512] 22 (0, 0))) (hne : bx ≠ g) (hf : q.size + 2 ≤ 364) :
    Calls Tryd.prog 38 #[.int .i64 148, .string (q ++ (⟨#[0, 32]⟩ : ByteArray)), .pointer (some ⟨bx, 0, none⟩)] w fun e w' => e = .returned (.tuple #[]) ∧ Buf w0 w' g (putB xs 148 (q ++ (⟨#[0, 32]⟩ : ByteArray))) ∧ w'.heap[bx]? = some (.cells #[.slice (some ⟨g, 0, none⟩) 512 512] 22 (0, 0)) :=
  (put_calls w0 w g bx xs 148 148 rfl _ hb hx hne (tail_fits q hf) (by omega)).mono fun e w' h => ⟨h.1, h.2.1, h.2.2.2⟩
end Go.Proofs.YtidlgdpjcognpaaDoor.X

-- written by xprint.py (the kit's print.py, turned), out of the translation; Lean checks it.
namespace Go.Proofs.YtidlgdpjcognpaaDoor.P
open Go.Proofs.YtidlgdpjcognpaaDoor.X
open Go.RowKit Go.Proofs.YtidlgdpjcognpaaDoorW.PrintWords Go.Proofs.YtidlgdpjcognpaaDoorW.PrintLast Go.Proofs.YtidlgdpjcognpaaDoorW.PrintMore
attribute [local go_sem] max2_int min2_int max_two min_two max_three min_three max_four min_four   -- for this text's walks alone
set_option linter.unusedVariables false
set_option linter.unusedSimpArgs false

/-! ### head_text: function 55 -/
def head_text.f (a0 : ByteArray) : Option (Bool) := if (a0.size : Int) ≤ 100 then ((strings_IndexByte.f a0 0).bind fun t292 => (some (decide (t292 < 0)))) else (some false)
set_option maxHeartbeats 8000000 in
set_option maxRecDepth 100000 in
theorem head_text.calls (a0 : ByteArray) (r : Bool) (w : World) (h : head_text.f a0 = some r) :
    Calls Tryd.prog 55 #[.string a0] w fun e w' => e = .returned (.bool r) ∧ Drawn0 w w' := by
  have H : (if (a0.size : Int) ≤ 100 then ((strings_IndexByte.f a0 0).bind fun t292 => (some (decide (t292 < 0)))) else (some false)) = some r := h
  clear h
  by_cases c2 : (a0.size : Int) ≤ 100
  · rw [if_pos c2] at H
    have c2b0 : decide ((a0.size : Int) ≤ 100) = true := decide_eq_true c2
    have c2b1 : decide (a0.size ≤ 100) = true := decide_eq_true (by omega)
    clear c2
    replace H := Option.bind_eq_some_iff.mp H
    obtain ⟨t292, A30, H⟩ := H
    replace H : (some (decide (t292 < 0))) = some r := H
    have A3 := Aside0.mk A30
    clear A30
    obtain rfl := Option.some.inj H
    go_enter Tryd.func55, Tryd.ntmps55
    go_wp2_with (first | (go_at_call 66; (with_reducible refine (strings_IndexByte.calls a0 0 t292 _ A3.out).mono ?_); rintro e w' ⟨rfl, ⟨nd, rfl⟩⟩))
    go_ret
    exact ⟨by first | rfl | (simp; done) | (simp [*]; done), by repeat (first | exact Drawn0.refl _ | apply Drawn0.step)⟩
  · rw [if_neg c2] at H
    have c2b0 : decide ((a0.size : Int) ≤ 100) = false := decide_eq_false c2
    have c2b1 : decide (a0.size ≤ 100) = false := decide_eq_false (by omega)
    clear c2
    obtain rfl := Option.some.inj H
    go_enter Tryd.func55, Tryd.ntmps55
    go_wp2
    go_ret
    exact ⟨by first | rfl | (simp; done) | (simp [*]; done), by repeat (first | exact Drawn0.refl _ | apply Drawn0.step)⟩

end Go.Proofs.YtidlgdpjcognpaaDoor.P

-- written by xprint.py (the kit's print.py, turned), out of the translation; Lean checks it.
namespace Go.Proofs.YtidlgdpjcognpaaDoor.P
open Go.Proofs.YtidlgdpjcognpaaDoor.X
open Go.RowKit Go.Proofs.YtidlgdpjcognpaaDoorW.PrintWords Go.Proofs.YtidlgdpjcognpaaDoorW.PrintLast Go.Proofs.YtidlgdpjcognpaaDoorW.PrintMore
attribute [local go_sem] max2_int min2_int max_two min_two max_three min_three max_four min_four   -- for this text's walks alone
set_option linter.unusedVariables false
set_option linter.unusedSimpArgs false

/-! ### head_may: function 37 -/
def head_may.f (a0 : ByteArray) (a1 : Int) (a2 : Int) (a3 : ByteArray) : Option (Bool) := if a0.toList = ([] : List UInt8) then (some false) else ((head_text.f a0).bind fun t293 => (if t293 = true then ((head_text.f a3).bind fun t294 => (if t294 = true then (if a1 < 1 then (some false) else (if a1 > 5 then (some false) else (if ((a3.toList != ([] : List UInt8)) == (a1 == 4)) = true then (if a2 = 0 then (some true) else (if a1 = 1 then (some false) else (some (a1 != 4)))) else (some false)))) else (some false))) else (some false)))
set_option maxHeartbeats 8000000 in
set_option maxRecDepth 100000 in
theorem head_may.calls (a0 : ByteArray) (a1 : Int) (a2 : Int) (a3 : ByteArray) (r : Bool) (w : World) (h : head_may.f a0 a1 a2 a3 = some r) :
    Calls Tryd.prog 37 #[.string a0, .int .i64 a1, .int .i64 a2, .string a3] w fun e w' => e = .returned (.bool r) ∧ Drawn0 w w' := by
  have H : (if a0.toList = ([] : List UInt8) then (some false) else ((head_text.f a0).bind fun t293 => (if t293 = true then ((head_text.f a3).bind fun t294 => (if t294 = true then (if a1 < 1 then (some false) else (if a1 > 5 then (some false) else (if ((a3.toList != ([] : List UInt8)) == (a1 == 4)) = true then (if a2 = 0 then (some true) else (if a1 = 1 then (some false) else (some (a1 != 4)))) else (some false)))) else (some false))) else (some false)))) = some r := h
  clear h
  by_cases c5 : a0.toList = ([] : List UInt8)
  · rw [if_pos c5] at H
    have c5b0 : (a0.toList == ([] : List UInt8)) = true := beq_iff_eq.mpr c5
    have c5b1 : (a0.toList != ([] : List UInt8)) = false := bne_eq_false_iff_eq.mpr c5
    clear c5
    obtain rfl := Option.some.inj H
    go_enter Tryd.func37, Tryd.ntmps37
    go_wp2
    go_ret
    exact ⟨by first | rfl | (simp; done) | (simp [*]; done), by repeat (first | exact Drawn0.refl _ | apply Drawn0.step)⟩
  · rw [if_neg c5] at H
    have c5b0 : (a0.toList == ([] : List UInt8)) = false := beq_eq_false_iff_ne.mpr c5
    have c5b1 : (a0.toList != ([] : List UInt8)) = true := bne_iff_ne.mpr c5
    replace H := Option.bind_eq_some_iff.mp H
    obtain ⟨t293, A60, H⟩ := H
    replace H : (if t293 = true then ((head_text.f a3).bind fun t294 => (if t294 = true then (if a1 < 1 then (some false) else (if a1 > 5 then (some false) else (if ((a3.toList != ([] : List UInt8)) == (a1 == 4)) = true then (if a2 = 0 then (some true) else (if a1 = 1 then (some false) else (some (a1 != 4)))) else (some false)))) else (some false))) else (some false)) = some r := H
    have A6 := Aside0.mk A60
    clear A60
    by_cases c7 : t293 = true
    · subst c7
      have H1 : ((head_text.f a3).bind fun t294 => (if t294 = true then (if a1 < 1 then (some false) else (if a1 > 5 then (some false) else (if ((a3.toList != ([] : List UInt8)) == (a1 == 4)) = true then (if a2 = 0 then (some true) else (if a1 = 1 then (some false) else (some (a1 != 4)))) else (some false)))) else (some false))) = some r := by rw [if_pos rfl] at H; exact H
      clear H
      have H := H1
      clear H1
      replace H := Option.bind_eq_some_iff.mp H
      obtain ⟨t294, A80, H⟩ := H
      replace H : (if t294 = true then (if a1 < 1 then (some false) else (if a1 > 5 then (some false) else (if ((a3.toList != ([] : List UInt8)) == (a1 == 4)) = true then (if a2 = 0 then (some true) else (if a1 = 1 then (some false) else (some (a1 != 4)))) else (some false)))) else (some false)) = some r := H
      have A8 := Aside0.mk A80
      clear A80
      by_cases c9 : t294 = true
      · subst c9
        have H1 : (if a1 < 1 then (some false) else (if a1 > 5 then (some false) else (if ((a3.toList != ([] : List UInt8)) == (a1 == 4)) = true then (if a2 = 0 then (some true) else (if a1 = 1 then (some false) else (some (a1 != 4)))) else (some false)))) = some r := by rw [if_pos rfl] at H; exact H
        clear H
        have H := H1
        clear H1
        by_cases c10 : a1 < 1
        · rw [if_pos c10] at H
          have c10b0 : decide (a1 < 1) = true := decide_eq_true c10
          clear c10
          obtain rfl := Option.some.inj H
          go_enter Tryd.func37, Tryd.ntmps37
          go_wp2_with (first | (go_at_call 55; (with_reducible refine (head_text.calls a0 true _ A6.out).mono ?_); rintro e w' ⟨rfl, ⟨nd, rfl⟩⟩) | (go_at_call 55; (with_reducible refine (head_text.calls a3 true _ A8.out).mono ?_); rintro e w' ⟨rfl, ⟨nd, rfl⟩⟩))
          go_ret
          exact ⟨by first | rfl | (simp; done) | (simp [*]; done), by repeat (first | exact Drawn0.refl _ | apply Drawn0.step)⟩
        · rw [if_neg c10] at H
          have c10b0 : decide (a1 < 1) = false := decide_eq_false c10
          clear c10
          by_cases c11 : a1 > 5
          · rw [if_pos c11] at H
            have c11b0 : decide (5 < a1) = true := decide_eq_true c11
            clear c11
            obtain rfl := Option.some.inj H
            go_enter Tryd.func37, Tryd.ntmps37
            go_wp2_with (first | (go_at_call 55; (with_reducible refine (head_text.calls a0 true _ A6.out).mono ?_); rintro e w' ⟨rfl, ⟨nd, rfl⟩⟩) | (go_at_call 55; (with_reducible refine (head_text.calls a3 true _ A8.out).mono ?_); rintro e w' ⟨rfl, ⟨nd, rfl⟩⟩))
            go_ret
            exact ⟨by first | rfl | (simp; done) | (simp [*]; done), by repeat (first | exact Drawn0.refl _ | apply Drawn0.step)⟩
          · rw [if_neg c11] at H
            have c11b0 : decide (5 < a1) = false := decide_eq_false c11
            clear c11
            by_cases c12 : ((a3.toList != ([] : List UInt8)) == (a1 == 4)) = true
            · rw [if_pos c12] at H
              have c12b0 : ((a3.toList != ([] : List UInt8)) == (a1 == 4)) = true := c12
              have c12b8 : (a3.toList.isEmpty = !(a1 == 4)) := by have h_ := c12b0; revert h_; generalize (a1 == 4) = y_; cases a3.toList <;> cases y_ <;> simp (config := { decide := true })
              (try (have c12b1 : decide ((a3.toList != ([] : List UInt8)) = (a1 == 4)) = true := by simpa using c12))
              (try (have c12b2 : ((a3.toList != ([] : List UInt8)) == (a1 == 4)) = true := by simpa using c12))
              clear c12
              by_cases c13 : a2 = 0
              · rw [if_pos c13] at H
                have c13b0 : (a2 == 0) = true := beq_iff_eq.mpr c13
                have c13b1 : (a2 != 0) = false := bne_eq_false_iff_eq.mpr c13
                clear c13
                obtain rfl := Option.some.inj H
                go_enter Tryd.func37, Tryd.ntmps37
                go_wp2_with (first | (go_at_call 55; (with_reducible refine (head_text.calls a0 true _ A6.out).mono ?_); rintro e w' ⟨rfl, ⟨nd, rfl⟩⟩) | (go_at_call 55; (with_reducible refine (head_text.calls a3 true _ A8.out).mono ?_); rintro e w' ⟨rfl, ⟨nd, rfl⟩⟩))
                go_ret
                exact ⟨by first | rfl | (simp; done) | (simp [*]; done), by repeat (first | exact Drawn0.refl _ | apply Drawn0.step)⟩
              · rw [if_neg c13] at H
                have c13b0 : (a2 == 0) = false := beq_eq_false_iff_ne.mpr c13
                have c13b1 : (a2 != 0) = true := bne_iff_ne.mpr c13
                by_cases c14 : a1 = 1
                · rw [if_pos c14] at H
                  have c14b0 : (a1 == 1) = true := beq_iff_eq.mpr c14
                  have c14b1 : (a1 != 1) = false := bne_eq_false_iff_eq.mpr c14
                  clear c14
                  obtain rfl := Option.some.inj H
                  go_enter Tryd.func37, Tryd.ntmps37
                  go_wp2_with (first | (go_at_call 55; (with_reducible refine (head_text.calls a0 true _ A6.out).mono ?_); rintro e w' ⟨rfl, ⟨nd, rfl⟩⟩) | (go_at_call 55; (with_reducible refine (head_text.calls a3 true _ A8.out).mono ?_); rintro e w' ⟨rfl, ⟨nd, rfl⟩⟩))
                  go_ret
                  exact ⟨by first | rfl | (simp; done) | (simp [*]; done), by repeat (first | exact Drawn0.refl _ | apply Drawn0.step)⟩
                · rw [if_neg c14] at H
                  have c14b0 : (a1 == 1) = false := beq_eq_false_iff_ne.mpr c14
                  have c14b1 : (a1 != 1) = true := bne_iff_ne.mpr c14
                  obtain rfl := Option.some.inj H
                  go_enter Tryd.func37, Tryd.ntmps37
                  go_wp2_with (first | (go_at_call 55; (with_reducible refine (head_text.calls a0 true _ A6.out).mono ?_); rintro e w' ⟨rfl, ⟨nd, rfl⟩⟩) | (go_at_call 55; (with_reducible refine (head_text.calls a3 true _ A8.out).mono ?_); rintro e w' ⟨rfl, ⟨nd, rfl⟩⟩))
                  go_ret
                  exact ⟨by first | rfl | (simp; done) | (simp [*]; done), by repeat (first | exact Drawn0.refl _ | apply Drawn0.step)⟩
            · rw [if_neg c12] at H
              have c12b0 : ((a3.toList != ([] : List UInt8)) == (a1 == 4)) = false := by simpa using c12
              have c12b8 : ¬ (a3.toList.isEmpty = !(a1 == 4)) := by have h_ := c12b0; revert h_; generalize (a1 == 4) = y_; cases a3.toList <;> cases y_ <;> simp (config := { decide := true })
              (try (have c12b1 : decide ((a3.toList != ([] : List UInt8)) = (a1 == 4)) = false := by simpa using c12))
              (try (have c12b2 : ((a3.toList != ([] : List UInt8)) == (a1 == 4)) = false := by simpa using c12))
              (try (have c12b3 : ¬ ((a3.toList != ([] : List UInt8)) = (a1 == 4)) := by simpa using c12))
              clear c12
              obtain rfl := Option.some.inj H
              go_enter Tryd.func37, Tryd.ntmps37
              go_wp2_with (first | (go_at_call 55; (with_reducible refine (head_text.calls a0 true _ A6.out).mono ?_); rintro e w' ⟨rfl, ⟨nd, rfl⟩⟩) | (go_at_call 55; (with_reducible refine (head_text.calls a3 true _ A8.out).mono ?_); rintro e w' ⟨rfl, ⟨nd, rfl⟩⟩))
              go_ret
              exact ⟨by first | rfl | (simp; done) | (simp [*]; done), by repeat (first | exact Drawn0.refl _ | apply Drawn0.step)⟩
      · replace c9 := Bool.eq_false_iff.mpr c9
        subst c9
        have H1 : (some false) = some r := by rw [if_neg (show ¬ (false = true) by decide)] at H; exact H
        clear H
        have H := H1
        clear H1
        obtain rfl := Option.some.inj H
        go_enter Tryd.func37, Tryd.ntmps37
        go_wp2_with (first | (go_at_call 55; (with_reducible refine (head_text.calls a0 true _ A6.out).mono ?_); rintro e w' ⟨rfl, ⟨nd, rfl⟩⟩) | (go_at_call 55; (with_reducible refine (head_text.calls a3 false _ A8.out).mono ?_); rintro e w' ⟨rfl, ⟨nd, rfl⟩⟩))
        go_ret
        exact ⟨by first | rfl | (simp; done) | (simp [*]; done), by repeat (first | exact Drawn0.refl _ | apply Drawn0.step)⟩
    · replace c7 := Bool.eq_false_iff.mpr c7
      subst c7
      have H1 : (some false) = some r := by rw [if_neg (show ¬ (false = true) by decide)] at H; exact H
      clear H
      have H := H1
      clear H1
      obtain rfl := Option.some.inj H
      go_enter Tryd.func37, Tryd.ntmps37
      go_wp2_with (first | (go_at_call 55; (with_reducible refine (head_text.calls a0 false _ A6.out).mono ?_); rintro e w' ⟨rfl, ⟨nd, rfl⟩⟩))
      go_ret
      exact ⟨by first | rfl | (simp; done) | (simp [*]; done), by repeat (first | exact Drawn0.refl _ | apply Drawn0.step)⟩

end Go.Proofs.YtidlgdpjcognpaaDoor.P

-- written by xprint.py (the kit's print.py, turned), out of the translation; Lean checks it.
namespace Go.Proofs.YtidlgdpjcognpaaDoor.P
open Go.Proofs.YtidlgdpjcognpaaDoor.X
open Go.RowKit Go.Proofs.YtidlgdpjcognpaaDoorW.PrintWords Go.Proofs.YtidlgdpjcognpaaDoorW.PrintLast Go.Proofs.YtidlgdpjcognpaaDoorW.PrintMore
attribute [local go_sem] max2_int min2_int max_two min_two max_three min_three max_four min_four   -- for this text's walks alone
set_option linter.unusedVariables false
set_option linter.unusedSimpArgs false

/-! ### head_mode: function 39 -/
def head_mode.j0 : Nat → Int → Bool → Option (ByteArray)
  | 0, _, _ => none
  | k + 1, x3, x4 => if x4 = true then (some (⟨#[48, 48, 48, 48, 55, 53, 53]⟩ : ByteArray)) else (if x3 = 4 then (some (⟨#[48, 48, 48, 48, 55, 55, 55]⟩ : ByteArray)) else (some (⟨#[48, 48, 48, 48, 54, 52, 52]⟩ : ByteArray)))
def head_mode.f (k : Nat) (a0 : Int) : Option (ByteArray) := if a0 = 1 then (head_mode.j0 k a0 (a0 == 1)) else (head_mode.j0 k a0 (a0 == 3))
theorem head_mode.mono_l : ∀ k, (∀ y0 y1, LeO (head_mode.j0 k y0 y1) (head_mode.j0 (k + 1) y0 y1))
  | 0 => fun _ _ r h => by simp [head_mode.j0] at h
  | k + 1 => by
    have ih0 := head_mode.mono_l k
    · intro y0 y1
      unfold head_mode.j0
      repeat' first
      | (with_reducible exact ih0 _ _)
      | (with_reducible exact LeO.refl _)
      | (with_reducible exact LeO.none _)
      | (with_reducible refine LeO.ite ?_ ?_)
      | (with_reducible refine LeO.bind ?_ (fun _ => ?_))
      | exact ih0 _ _
      | exact LeO.none _
      | refine LeO.ite ?_ ?_
      | refine LeO.bind ?_ (fun _ => ?_)
theorem head_mode.mono : ∀ a0 k, LeO (head_mode.f k a0) (head_mode.f (k + 1) a0) := by
  intro a0 k
  have ih0 := head_mode.mono_l k
  unfold head_mode.f
  repeat' first
      | (with_reducible exact ih0 _ _)
      | (with_reducible exact LeO.refl _)
      | (with_reducible exact LeO.none _)
      | (with_reducible refine LeO.ite ?_ ?_)
      | (with_reducible refine LeO.bind ?_ (fun _ => ?_))
      | exact ih0 _ _
      | exact LeO.none _
      | refine LeO.ite ?_ ?_
      | refine LeO.bind ?_ (fun _ => ?_)
set_option maxHeartbeats 8000000 in
set_option maxRecDepth 100000 in
theorem head_mode.calls (k : Nat) (a0 : Int) (r : ByteArray) (w : World) (h : head_mode.f k a0 = some r) :
    Calls Tryd.prog 39 #[.int .i64 a0] w fun e w' => e = .returned (.string r) ∧ Drawn0 w w' := by
  have H : (if a0 = 1 then (head_mode.j0 k a0 (a0 == 1)) else (head_mode.j0 k a0 (a0 == 3))) = some r := h
  clear h
  have HC2 := Aside0.mk H
  clear H
  go_enter Tryd.func39, Tryd.ntmps39
  go_upto_if 4 with (fail)
  go_cut [4] (fun v4 wc => ∃ (kq : Nat) (x4_1 : Bool), v4 = .bool x4_1 ∧ Aside0 (head_mode.j0 kq a0 x4_1 = some r) ∧ Aside0 (kq ≤ k) ∧ Drawn0 w wc)
  case first =>
    have H := HC2.out
    clear HC2
    by_cases c3 : a0 = 1
    · rw [if_pos c3] at H
      have c3b0 : (a0 == 1) = true := beq_iff_eq.mpr c3
      have c3b1 : (a0 != 1) = false := bne_eq_false_iff_eq.mpr c3
      clear c3
      (first | rw [c3b0] | (simp only [i64_w, i32_w]; rw [c3b0]) | skip)
      have H' := Aside0.mk H
      clear H
      go_wp2
      go_meet
      case rel => exact ⟨_, ((a0 == 1)), (by first | rfl | (simp; done) | (simp [*]; done)), H', ⟨by first | omega | exact Nat.le_refl _⟩, by repeat (first | exact Drawn0.refl _ | apply Drawn0.step)⟩
    · rw [if_neg c3] at H
      have c3b0 : (a0 == 1) = false := beq_eq_false_iff_ne.mpr c3
      have c3b1 : (a0 != 1) = true := bne_iff_ne.mpr c3
      (first | rw [c3b0] | (simp only [i64_w, i32_w]; rw [c3b0]) | skip)
      have H' := Aside0.mk H
      clear H
      go_wp2
      go_meet
      case rel => exact ⟨_, ((a0 == 3)), (by first | rfl | (simp; done) | (simp [*]; done)), H', ⟨by first | omega | exact Nat.le_refl _⟩, by repeat (first | exact Drawn0.refl _ | apply Drawn0.step)⟩
  case rest =>
    clear HC2
    try clear p2
    try clear c3
    try clear c3b0
    try clear c3b1
    obtain ⟨kq, x4_1, rfl, HA, HJ1, ⟨mc1, rfl⟩⟩ := hcut
    cases kq with
    | zero => exact absurd HA.out (by simp [head_mode.j0])
    | succ kj1 =>
      have H := HA.out
      clear HA
      simp only [head_mode.j0] at H
      by_cases c4 : x4_1 = true
      · subst c4
        have H1 : (some (⟨#[48, 48, 48, 48, 55, 53, 53]⟩ : ByteArray)) = some r := by rw [if_pos rfl] at H; exact H
        clear H
        have H := H1
        clear H1
        obtain rfl := Option.some.inj H
        go_wp2
        go_ret
        exact ⟨by first | rfl | (simp; done) | (simp [*]; done), by repeat (first | exact Drawn0.refl _ | apply Drawn0.step)⟩
      · replace c4 := Bool.eq_false_iff.mpr c4
        subst c4
        have H1 : (if a0 = 4 then (some (⟨#[48, 48, 48, 48, 55, 55, 55]⟩ : ByteArray)) else (some (⟨#[48, 48, 48, 48, 54, 52, 52]⟩ : ByteArray))) = some r := by rw [if_neg (show ¬ (false = true) by decide)] at H; exact H
        clear H
        have H := H1
        clear H1
        by_cases c5 : a0 = 4
        · rw [if_pos c5] at H
          have c5b0 : (a0 == 4) = true := beq_iff_eq.mpr c5
          have c5b1 : (a0 != 4) = false := bne_eq_false_iff_eq.mpr c5
          clear c5
          obtain rfl := Option.some.inj H
          go_wp2
          go_ret
          exact ⟨by first | rfl | (simp; done) | (simp [*]; done), by repeat (first | exact Drawn0.refl _ | apply Drawn0.step)⟩
        · rw [if_neg c5] at H
          have c5b0 : (a0 == 4) = false := beq_eq_false_iff_ne.mpr c5
          have c5b1 : (a0 != 4) = true := bne_iff_ne.mpr c5
          obtain rfl := Option.some.inj H
          go_wp2
          go_ret
          exact ⟨by first | rfl | (simp; done) | (simp [*]; done), by repeat (first | exact Drawn0.refl _ | apply Drawn0.step)⟩

end Go.Proofs.YtidlgdpjcognpaaDoor.P

-- written by xprint.py (the kit's print.py, turned), out of the translation; Lean checks it.
namespace Go.Proofs.YtidlgdpjcognpaaDoor.P
open Go.Proofs.YtidlgdpjcognpaaDoor.X
open Go.RowKit Go.Proofs.YtidlgdpjcognpaaDoorW.PrintWords Go.Proofs.YtidlgdpjcognpaaDoorW.PrintLast Go.Proofs.YtidlgdpjcognpaaDoorW.PrintMore
attribute [local go_sem] max2_int min2_int max_two min_two max_three min_three max_four min_four   -- for this text's walks alone
set_option linter.unusedVariables false
set_option linter.unusedSimpArgs false

/-! ### head_sign: function 40 -/
def head_sign.f (a0 : Int) : Option (ByteArray) := if a0 = 1 then (some (⟨#[53]⟩ : ByteArray)) else (if a0 = 4 then (some (⟨#[50]⟩ : ByteArray)) else (if a0 = 5 then (some (⟨#[120]⟩ : ByteArray)) else (some (⟨#[48]⟩ : ByteArray))))
set_option maxHeartbeats 8000000 in
set_option maxRecDepth 100000 in
theorem head_sign.calls (a0 : Int) (r : ByteArray) (w : World) (h : head_sign.f a0 = some r) :
    Calls Tryd.prog 40 #[.int .i64 a0] w fun e w' => e = .returned (.string r) ∧ Drawn0 w w' := by
  have H : (if a0 = 1 then (some (⟨#[53]⟩ : ByteArray)) else (if a0 = 4 then (some (⟨#[50]⟩ : ByteArray)) else (if a0 = 5 then (some (⟨#[120]⟩ : ByteArray)) else (some (⟨#[48]⟩ : ByteArray))))) = some r := h
  clear h
  by_cases c2 : a0 = 1
  · rw [if_pos c2] at H
    have c2b0 : (a0 == 1) = true := beq_iff_eq.mpr c2
    have c2b1 : (a0 != 1) = false := bne_eq_false_iff_eq.mpr c2
    clear c2
    obtain rfl := Option.some.inj H
    go_enter Tryd.func40, Tryd.ntmps40
    go_wp2
    go_ret
    exact ⟨by first | rfl | (simp; done) | (simp [*]; done), by repeat (first | exact Drawn0.refl _ | apply Drawn0.step)⟩
  · rw [if_neg c2] at H
    have c2b0 : (a0 == 1) = false := beq_eq_false_iff_ne.mpr c2
    have c2b1 : (a0 != 1) = true := bne_iff_ne.mpr c2
    by_cases c3 : a0 = 4
    · rw [if_pos c3] at H
      have c3b0 : (a0 == 4) = true := beq_iff_eq.mpr c3
      have c3b1 : (a0 != 4) = false := bne_eq_false_iff_eq.mpr c3
      clear c3
      obtain rfl := Option.some.inj H
      go_enter Tryd.func40, Tryd.ntmps40
      go_wp2
      go_ret
      exact ⟨by first | rfl | (simp; done) | (simp [*]; done), by repeat (first | exact Drawn0.refl _ | apply Drawn0.step)⟩
    · rw [if_neg c3] at H
      have c3b0 : (a0 == 4) = false := beq_eq_false_iff_ne.mpr c3
      have c3b1 : (a0 != 4) = true := bne_iff_ne.mpr c3
      by_cases c4 : a0 = 5
      · rw [if_pos c4] at H
        have c4b0 : (a0 == 5) = true := beq_iff_eq.mpr c4
        have c4b1 : (a0 != 5) = false := bne_eq_false_iff_eq.mpr c4
        clear c4
        obtain rfl := Option.some.inj H
        go_enter Tryd.func40, Tryd.ntmps40
        go_wp2
        go_ret
        exact ⟨by first | rfl | (simp; done) | (simp [*]; done), by repeat (first | exact Drawn0.refl _ | apply Drawn0.step)⟩
      · rw [if_neg c4] at H
        have c4b0 : (a0 == 5) = false := beq_eq_false_iff_ne.mpr c4
        have c4b1 : (a0 != 5) = true := bne_iff_ne.mpr c4
        obtain rfl := Option.some.inj H
        go_enter Tryd.func40, Tryd.ntmps40
        go_wp2
        go_ret
        exact ⟨by first | rfl | (simp; done) | (simp [*]; done), by repeat (first | exact Drawn0.refl _ | apply Drawn0.step)⟩

end Go.Proofs.YtidlgdpjcognpaaDoor.P

/- head.Lay, walked by hand: its closure fills a buffer. -/
namespace Go.Proofs.YtidlgdpjcognpaaDoor.X
open Go.RowKit Go.Proofs.YtidlgdpjcognpaaDoorW.PrintWords Go.Proofs.YtidlgdpjcognpaaDoor.P
set_option linter.unusedVariables false
set_option linter.unusedSimpArgs false

def laid0 (name md dg sg link : ByteArray) : List Int :=
  putB (putB (putB (putB (putB (putB (putB (putB (putB (putB zeros512 0 name) 100 md) 108 ⟨#[48, 48, 48, 48, 48, 48, 48]⟩) 116 ⟨#[48, 48, 48, 48, 48, 48, 48]⟩) 124 dg) 136 ⟨#[48, 48, 48, 48, 48, 48, 48, 48, 48, 48, 48]⟩) 148 ⟨#[32, 32, 32, 32, 32, 32, 32, 32]⟩) 156 sg) 157 link) 257 ⟨#[117, 115, 116, 97, 114, 0, 48, 48]⟩
def head_Lay.f (k : Nat) (a0 : ByteArray) (a1 a2 : Int) (a3 : ByteArray) : Option (List Int × Bool) :=
  (head_Octal.f k a2 11).bind fun o => if o.2 = true then (head_may.f a0 a1 a2 a3).bind fun m => if m = true then
    (head_mode.f k a1).bind fun md => (head_sign.f a1).bind fun sg =>
      if a0.size ≤ 512 ∧ md.size ≤ 412 ∧ o.1.size ≤ 388 ∧ sg.size ≤ 356 ∧ a3.size ≤ 355 then
        (head_Octal.f k (sumB (laid0 a0 md o.1 sg a3)) 6).bind fun q => if q.1.size + 2 ≤ 364 then some (putB (laid0 a0 md o.1 sg a3) 148 (q.1 ++ ⟨#[0, 32]⟩), true) else none
      else none
    else some ([], false)
  else some ([], false)
theorem head_Lay.mono : ∀ a0 a1 a2 a3 k, LeO (head_Lay.f k a0 a1 a2 a3) (head_Lay.f (k + 1) a0 a1 a2 a3) := by
  intro a0 a1 a2 a3 k
  unfold head_Lay.f
  refine LeO.bind (head_Octal.mono _ _ _) fun o => LeO.ite (LeO.bind (LeO.refl _) fun m => LeO.ite (LeO.bind (head_mode.mono _ _) fun md => LeO.bind (LeO.refl _) fun sg => LeO.ite (LeO.bind (head_Octal.mono _ _ _) fun q => LeO.refl _) (LeO.refl _)) (LeO.refl _)) (LeO.refl _)

set_option maxHeartbeats 6400000 in
set_option maxRecDepth 100000 in
theorem head_Lay.calls (k : Nat) (a0 : ByteArray) (a1 a2 : Int) (a3 : ByteArray) (r1 : List Int) (r2 : Bool) (w : World) (hT : Aside0 (Tabs w)) (h : head_Lay.f k a0 a1 a2 a3 = some (r1, r2)) :
    Calls Tryd.prog 28 #[.string a0, .int .i64 a1, .int .i64 a2, .string a3] w fun e w' => ∃ v0_, e = .returned (.tuple #[v0_, .bool r2]) ∧ (Kd.int .u8).R 5 w' w.heap.size (fun _ => True) v0_ r1 ∧ Below w.heap.size w w' := by
  unfold head_Lay.f at h
  replace h := Option.bind_eq_some_iff.mp h
  obtain ⟨⟨o1, o2⟩, h1, h⟩ := h
  have H1 := Aside0.mk h1
  clear h1
  have HB := Aside0.mk (Below.refl w.heap.size w)
  cases o2 with
  | false =>
    rw [if_neg (by simp)] at h
    obtain ⟨rfl, rfl⟩ := Prod.mk.inj (Option.some.inj h)
    go_enter Tryd.func28, Tryd.ntmps28
    go_wp2_with (go_at_call 24; refine (head_Octal.calls k a2 11 o1 false _ hT H1.out).mono ?_; rintro e w1 ⟨rfl, hb⟩; have HB1 := Aside0.mk hb; clear hb)
    go_ret2
    exact ⟨_, rfl, Kd.R_nil _ _ _ _ _, HB1.out⟩
  | true =>
    rw [if_pos rfl] at h
    replace h := Option.bind_eq_some_iff.mp h
    obtain ⟨m, h2, h⟩ := h
    have H2 := Aside0.mk h2
    clear h2
    cases m with
    | false =>
      rw [if_neg (by simp)] at h
      obtain ⟨rfl, rfl⟩ := Prod.mk.inj (Option.some.inj h)
      go_enter Tryd.func28, Tryd.ntmps28
      go_wp2_with (first | (go_at_call 24; refine (head_Octal.calls k a2 11 o1 true _ hT H1.out).mono ?_; rintro e w1 ⟨rfl, hb⟩; have HB1 := Aside0.mk hb; clear hb) | (go_at_call 37; refine (head_may.calls a0 a1 a2 a3 false _ H2.out).mono ?_; rintro e w2 ⟨rfl, ⟨n2, rfl⟩⟩))
      go_ret2
      exact ⟨_, rfl, Kd.R_nil _ _ _ _ _, pw_below_drewN HB1.out n2⟩
    | true =>
      rw [if_pos rfl] at h
      replace h := Option.bind_eq_some_iff.mp h
      obtain ⟨md, h3, h⟩ := h
      have H3 := Aside0.mk h3
      replace h := Option.bind_eq_some_iff.mp h
      obtain ⟨sg, h4, h⟩ := h
      have H4 := Aside0.mk h4
      clear h3 h4
      split at h
      case isFalse => cases h
      rename_i hfit
      obtain ⟨f0, f1, f2, f3, f4⟩ := hfit
      replace h := Option.bind_eq_some_iff.mp h
      obtain ⟨⟨q1, q2⟩, h5, h⟩ := h
      have H5 := Aside0.mk h5
      clear h5
      split at h
      case isFalse => cases h
      rename_i f5
      obtain ⟨rfl, rfl⟩ := Prod.mk.inj (Option.some.inj h)
      clear h
      have F := Aside0.mk (And.intro f0 (And.intro f1 (And.intro f2 (And.intro f3 (And.intro f4 f5)))))
      clear f0 f1 f2 f3 f4 f5
      have hmk := make512
      go_enter Tryd.func28, Tryd.ntmps28
      go_wp2_with (first | (go_at_call 24; refine (head_Octal.calls k a2 11 o1 true _ hT H1.out).mono ?_; rintro e w1 ⟨rfl, hb⟩; have HB1 := Aside0.mk hb; clear hb) | (go_at_call 37; refine (head_may.calls a0 a1 a2 a3 true _ H2.out).mono ?_; rintro e w2 ⟨rfl, ⟨n2, rfl⟩⟩))
      have HF := Aside0.mk (Buf.made (w0 := w) (pw_below_drewN HB1.out n2) (.slice (some ⟨w1.heap.size, 0, none⟩) 512 512))
      have HX := Aside0.mk (show (((w1.drewN n2).alloc (.cells (nums .u8 zeros512).toArray 5)).alloc (.cells #[.slice (some ⟨w1.heap.size, 0, none⟩) 512 512] 22)).heap[w1.heap.size + 1]? = some (.cells #[.slice (some ⟨w1.heap.size, 0, none⟩) 512 512] 22 (0, 0)) from by show (((w1.drewN n2).heap.push _).push _)[_]? = _; rw [Array.getElem?_push, if_pos (by rw [Array.size_push, World.heap_drewN])])
      have eg : (w1.drewN n2).heap.size = w1.heap.size := by rw [World.heap_drewN]
      rw [eg] at HF
      clear eg
      have HN := Aside0.mk (show w1.heap.size + 1 ≠ w1.heap.size by omega)
      have HL := Aside0.mk (Nat.le_refl w1.heap.size)
      generalize ((w1.drewN n2).alloc (.cells (nums .u8 zeros512).toArray 5)).alloc (.cells #[.slice (some ⟨w1.heap.size, 0, none⟩) 512 512] 22) = W0 at *
      generalize w1.heap.size + 1 = bx at *
      generalize w1.heap.size = g at *
      refine (put_calls w _ g bx (zeros512) _ 0 rfl a0 HF.out HX.out HN.out (by have := F.out.1; omega) (by decide)).mono ?_
      rintro e W1 ⟨rfl, hb, _, hx⟩
      clear HF HX
      have HF := Aside0.mk hb
      have HX := Aside0.mk hx
      clear hb hx
      go_wp2_with (first | (go_at_call 39; refine (head_mode.calls k a1 md _ H3.out).mono ?_; rintro e wn ⟨rfl, ⟨nd, rfl⟩⟩))
      replace HF := Aside0.mk (HF.out.step (pw_below_drewN (Below.refl _ _) nd))
      replace HX := Aside0.mk (show (W1.drewN nd).heap[bx]? = some (.cells #[.slice (some ⟨g, 0, none⟩) 512 512] 22 (0, 0)) from HX.out)
      refine (put_calls w _ g bx (putB (zeros512) 0 a0) _ 100 rfl md HF.out HX.out HN.out (by have := F.out.2.1; omega) (by decide)).mono ?_
      rintro e W2 ⟨rfl, hb, _, hx⟩
      clear HF HX
      have HF := Aside0.mk hb
      have HX := Aside0.mk hx
      clear hb hx
      go_wp2_with fail
      refine (put_calls w _ g bx (putB (putB (zeros512) 0 a0) 100 md) _ 108 rfl ⟨#[48, 48, 48, 48, 48, 48, 48]⟩ HF.out HX.out HN.out (by show _ + _ ≤ 512; decide) (by decide)).mono ?_
      rintro e W3 ⟨rfl, hb, _, hx⟩
      clear HF HX
      have HF := Aside0.mk hb
      have HX := Aside0.mk hx
      clear hb hx
      go_wp2_with fail
      refine (put_calls w _ g bx (putB (putB (putB (zeros512) 0 a0) 100 md) 108 ⟨#[48, 48, 48, 48, 48, 48, 48]⟩) _ 116 rfl ⟨#[48, 48, 48, 48, 48, 48, 48]⟩ HF.out HX.out HN.out (by show _ + _ ≤ 512; decide) (by decide)).mono ?_
      rintro e W4 ⟨rfl, hb, _, hx⟩
      clear HF HX
      have HF := Aside0.mk hb
      have HX := Aside0.mk hx
      clear hb hx
      go_wp2_with fail
      refine (put_calls w _ g bx (putB (putB (putB (putB (zeros512) 0 a0) 100 md) 108 ⟨#[48, 48, 48, 48, 48, 48, 48]⟩) 116 ⟨#[48, 48, 48, 48, 48, 48, 48]⟩) _ 124 rfl o1 HF.out HX.out HN.out (by have := F.out.2.2.1; omega) (by decide)).mono ?_
      rintro e W5 ⟨rfl, hb, _, hx⟩
      clear HF HX
      have HF := Aside0.mk hb
      have HX := Aside0.mk hx
      clear hb hx
      go_wp2_with fail
      refine (put_calls w _ g bx (putB (putB (putB (putB (putB (zeros512) 0 a0) 100 md) 108 ⟨#[48, 48, 48, 48, 48, 48, 48]⟩) 116 ⟨#[48, 48, 48, 48, 48, 48, 48]⟩) 124 o1) _ 136 rfl ⟨#[48, 48, 48, 48, 48, 48, 48, 48, 48, 48, 48]⟩ HF.out HX.out HN.out (by show _ + _ ≤ 512; decide) (by decide)).mono ?_
      rintro e W6 ⟨rfl, hb, _, hx⟩
      clear HF HX
      have HF := Aside0.mk hb
      have HX := Aside0.mk hx
      clear hb hx
      go_wp2_with fail
      refine (put_calls w _ g bx (putB (putB (putB (putB (putB (putB (zeros512) 0 a0) 100 md) 108 ⟨#[48, 48, 48, 48, 48, 48, 48]⟩) 116 ⟨#[48, 48, 48, 48, 48, 48, 48]⟩) 124 o1) 136 ⟨#[48, 48, 48, 48, 48, 48, 48, 48, 48, 48, 48]⟩) _ 148 rfl ⟨#[32, 32, 32, 32, 32, 32, 32, 32]⟩ HF.out HX.out HN.out (by show _ + _ ≤ 512; decide) (by decide)).mono ?_
      rintro e W7 ⟨rfl, hb, _, hx⟩
      clear HF HX
      have HF := Aside0.mk hb
      have HX := Aside0.mk hx
      clear hb hx
      go_wp2_with (first | (go_at_call 40; refine (head_sign.calls a1 sg _ H4.out).mono ?_; rintro e wn ⟨rfl, ⟨nd, rfl⟩⟩))
      replace HF := Aside0.mk (HF.out.step (pw_below_drewN (Below.refl _ _) nd))
      replace HX := Aside0.mk (show (W7.drewN nd).heap[bx]? = some (.cells #[.slice (some ⟨g, 0, none⟩) 512 512] 22 (0, 0)) from HX.out)
      refine (put_calls w _ g bx (putB (putB (putB (putB (putB (putB (putB (zeros512) 0 a0) 100 md) 108 ⟨#[48, 48, 48, 48, 48, 48, 48]⟩) 116 ⟨#[48, 48, 48, 48, 48, 48, 48]⟩) 124 o1) 136 ⟨#[48, 48, 48, 48, 48, 48, 48, 48, 48, 48, 48]⟩) 148 ⟨#[32, 32, 32, 32, 32, 32, 32, 32]⟩) _ 156 rfl sg HF.out HX.out HN.out (by have := F.out.2.2.2.1; omega) (by decide)).mono ?_
      rintro e W8 ⟨rfl, hb, _, hx⟩
      clear HF HX
      have HF := Aside0.mk hb
      have HX := Aside0.mk hx
      clear hb hx
      go_wp2_with fail
      refine (put_calls w _ g bx (putB (putB (putB (putB (putB (putB (putB (putB (zeros512) 0 a0) 100 md) 108 ⟨#[48, 48, 48, 48, 48, 48, 48]⟩) 116 ⟨#[48, 48, 48, 48, 48, 48, 48]⟩) 124 o1) 136 ⟨#[48, 48, 48, 48, 48, 48, 48, 48, 48, 48, 48]⟩) 148 ⟨#[32, 32, 32, 32, 32, 32, 32, 32]⟩) 156 sg) _ 157 rfl a3 HF.out HX.out HN.out (by have := F.out.2.2.2.2.1; omega) (by decide)).mono ?_
      rintro e W9 ⟨rfl, hb, _, hx⟩
      clear HF HX
      have HF := Aside0.mk hb
      have HX := Aside0.mk hx
      clear hb hx
      go_wp2_with fail
      refine (put_calls w _ g bx (putB (putB (putB (putB (putB (putB (putB (putB (putB (zeros512) 0 a0) 100 md) 108 ⟨#[48, 48, 48, 48, 48, 48, 48]⟩) 116 ⟨#[48, 48, 48, 48, 48, 48, 48]⟩) 124 o1) 136 ⟨#[48, 48, 48, 48, 48, 48, 48, 48, 48, 48, 48]⟩) 148 ⟨#[32, 32, 32, 32, 32, 32, 32, 32]⟩) 156 sg) 157 a3) _ 257 rfl ⟨#[117, 115, 116, 97, 114, 0, 48, 48]⟩ HF.out HX.out HN.out (by show _ + _ ≤ 512; decide) (by decide)).mono ?_
      rintro e W10 ⟨rfl, hb, _, hx⟩
      clear HF HX
      have HF := Aside0.mk hb
      have HX := Aside0.mk hx
      clear hb hx
      have hcb := cell_of_one HX.out
      generalize hxs : putB (putB (putB (putB (putB (putB (putB (putB (putB (putB zeros512 0 a0) 100 md) 108 ⟨#[48, 48, 48, 48, 48, 48, 48]⟩) 116 ⟨#[48, 48, 48, 48, 48, 48, 48]⟩) 124 o1) 136 ⟨#[48, 48, 48, 48, 48, 48, 48, 48, 48, 48, 48]⟩) 148 ⟨#[32, 32, 32, 32, 32, 32, 32, 32]⟩) 156 sg) 157 a3) 257 ⟨#[117, 115, 116, 97, 114, 0, 48, 48]⟩ = xs at HF
      have HXs := Aside0.mk (show laid0 a0 md o1 sg a3 = xs from hxs)
      replace H5 := Aside0.mk (HXs.out ▸ H5.out : head_Octal.f k (sumB xs) 6 = some (q1, q2))
      clear hxs
      go_wp2_with fail
      have hcl := Aside0.mk (fun i hi => HF.out.cell i hi)
      go_loopw [14, 65] (fun vs vi wr => ∃ (i : Nat), vi = .int .i64 i ∧ i ≤ 512 ∧ vs = .int .i64 (sumB (xs.take i)) ∧ Hid (Buf w wr g xs) ∧ Hid (wr.heap[bx]? = some (.cells #[.slice (some ⟨g, 0, none⟩) 512 512] 22 (0, 0)))) (fun _ vi _ => 512 - (intOf vi).toNat)
      case atStart => exact ⟨0, rfl, by omega, rfl, HF.out, HX.out⟩
      case round =>
        obtain ⟨i, rfl, hi, rfl, hB, hX⟩ := hrel
        by_cases hlt : i < 512
        · have hcell := hB.out.cell i hlt
          go_wp2
          have hl : i < xs.length := by rw [hB.out.len]; exact hlt
          exact ⟨⟨i + 1, rfl, by omega, by rw [sumB_take xs i hl], hB, hX⟩, by simp only [intOf]; omega⟩
        · obtain rfl : i = 512 := by omega
          have hcb := cell_of_one hX.out
          have ht : xs.take 512 = xs := List.take_of_length_le (by rw [hB.out.len]; exact Nat.le_refl _)
          rw [ht]
          clear ht
          have HB2 := Aside0.mk hB.out
          have hcat : ¬ (9223372036854775807 < q1.size + 2) := by have := F.out.2.2.2.2.2; omega
          go_wp2_with (go_at_call 24; refine (head_Octal.calls k (sumB xs) 6 q1 q2 _ ⟨Tabs.below hT.out HB2.out.below⟩ H5.out).mono ?_; rintro e wq ⟨rfl, hb⟩; have HBq := Aside0.mk hb; clear hb)
          have HBF := Aside0.mk (HB2.out.step HBq.out)
          have HXq := Aside0.mk ((HBq.out.block bx (Array.getElem?_eq_some_iff.1 hX.out).1).trans hX.out)
          clear hcb HB2 hX hB HBq hcat
          refine (put_tail w wq g bx xs q1 HBF.out HXq.out HN.out F.out.2.2.2.2.2).mono ?_
          rintro e wz ⟨rfl, hb, hx⟩
          clear HBF HXq
          have hcz := cell_of_one hx
          have HZ := Aside0.mk hb
          clear hb hx
          go_wp2_with fail
          go_ret2
          refine ⟨_, rfl, ?_, HZ.out.below⟩
          rw [HXs.out]
          exact HZ.out.R
end Go.Proofs.YtidlgdpjcognpaaDoor.X

-- written by xprint.py (the kit's print.py, turned), out of the translation; Lean checks it.
namespace Go.Proofs.YtidlgdpjcognpaaDoor.P
open Go.Proofs.YtidlgdpjcognpaaDoor.X
open Go.RowKit Go.Proofs.YtidlgdpjcognpaaDoorW.PrintWords Go.Proofs.YtidlgdpjcognpaaDoorW.PrintLast Go.Proofs.YtidlgdpjcognpaaDoorW.PrintMore
attribute [local go_sem] max2_int min2_int max_two min_two max_three min_three max_four min_four   -- for this text's walks alone
set_option linter.unusedVariables false
set_option linter.unusedSimpArgs false

/-! ### hogsheadref12_zero: function 41 -/
def hogsheadref12_zero.l0 : Nat → ByteArray → Int → Option (Bool)
  | 0, _, _ => none
  | k + 1, x0, x3 => if x3 < (x0.size : Int) then (if 0 ≤ x3 then (if (bt x0 x3) = 0 then (some true) else (hogsheadref12_zero.l0 k x0 (wrap64 (x3 + 1)))) else (none)) else (some false)
def hogsheadref12_zero.f (k : Nat) (a0 : ByteArray) : Option (Bool) := hogsheadref12_zero.l0 k a0 0
theorem hogsheadref12_zero.mono_l : ∀ k, (∀ y0 y1, LeO (hogsheadref12_zero.l0 k y0 y1) (hogsheadref12_zero.l0 (k + 1) y0 y1))
  | 0 => fun _ _ r h => by simp [hogsheadref12_zero.l0] at h
  | k + 1 => by
    have ih0 := hogsheadref12_zero.mono_l k
    · intro y0 y1
      unfold hogsheadref12_zero.l0
      repeat' first
      | (with_reducible exact ih0 _ _)
      | (with_reducible exact LeO.refl _)
      | (with_reducible exact LeO.none _)
      | (with_reducible refine LeO.ite ?_ ?_)
      | (with_reducible refine LeO.bind ?_ (fun _ => ?_))
      | exact ih0 _ _
      | exact LeO.none _
      | refine LeO.ite ?_ ?_
      | refine LeO.bind ?_ (fun _ => ?_)
theorem hogsheadref12_zero.mono : ∀ a0 k, LeO (hogsheadref12_zero.f k a0) (hogsheadref12_zero.f (k + 1) a0) := by
  intro a0 k
  have ih0 := hogsheadref12_zero.mono_l k
  unfold hogsheadref12_zero.f
  repeat' first
      | (with_reducible exact ih0 _ _)
      | (with_reducible exact LeO.refl _)
      | (with_reducible exact LeO.none _)
      | (with_reducible refine LeO.ite ?_ ?_)
      | (with_reducible refine LeO.bind ?_ (fun _ => ?_))
      | exact ih0 _ _
      | exact LeO.none _
      | refine LeO.ite ?_ ?_
      | refine LeO.bind ?_ (fun _ => ?_)
set_option maxHeartbeats 8000000 in
set_option maxRecDepth 100000 in
theorem hogsheadref12_zero.calls (k : Nat) (a0 : ByteArray) (r : Bool) (w : World) (h : hogsheadref12_zero.f k a0 = some r) :
    Calls Tryd.prog 41 #[.string a0] w fun e w' => e = .returned (.bool r) ∧ Drawn0 w w' := by
  have H : (hogsheadref12_zero.l0 k a0 0) = some r := h
  clear h
  have H' := Aside0.mk H
  clear H
  go_enter Tryd.func41, Tryd.ntmps41
  go_wp2
  go_loopg [3] k (fun kq v3 w' => ∃ (x3_1 : Int), v3 = .int .i64 x3_1 ∧ Aside0 (hogsheadref12_zero.l0 kq a0 x3_1 = some r) ∧ Aside0 (kq ≤ k) ∧ Drawn0 w w')
  case atStart => exact ⟨(0), (by first | rfl | (simp; done) | (simp [*]; done)), H', ⟨Nat.le_refl _⟩, by repeat (first | exact Drawn0.refl _ | apply Drawn0.step)⟩
  case round =>
    clear H'
    obtain ⟨x3_1, rfl, HA, HK1, ⟨m1, rfl⟩⟩ := hrel
    cases gk with
    | zero => exact absurd HA.out (by simp [hogsheadref12_zero.l0])
    | succ k1 =>
      have H := HA.out
      clear HA
      simp only [hogsheadref12_zero.l0] at H
      by_cases c2 : x3_1 < (a0.size : Int)
      · rw [if_pos c2] at H
        have c2b0 : decide (x3_1 < (a0.size : Int)) = true := decide_eq_true c2
        clear c2
        by_cases c3 : 0 ≤ x3_1
        · rw [if_pos c3] at H
          have c3b0 : decide (0 ≤ x3_1) = true := decide_eq_true c3
          clear c3
          by_cases c5 : (bt a0 x3_1) = 0
          · rw [if_pos c5] at H
            have c5b0 : ((bt a0 x3_1) == 0) = true := beq_iff_eq.mpr c5
            have c5b1 : ((bt a0 x3_1) != 0) = false := bne_eq_false_iff_eq.mpr c5
            clear c5
            obtain rfl := Option.some.inj H
            have p4 : 0 ≤ (x3_1 : Int) := of_decide_eq_true (by first | (with_reducible assumption) | assumption)
            have q4 : x3_1 < (a0.size : Int) := of_decide_eq_true (by first | (with_reducible assumption) | assumption)
            have hx4 := bt_at a0 x3_1
            replace p4 := eq_true p4
            replace q4 := eq_true q4
            go_wp2
            go_ret
            exact ⟨by first | rfl | (simp; done) | (simp [*]; done), by repeat (first | exact Drawn0.refl _ | apply Drawn0.step)⟩
          · rw [if_neg c5] at H
            have c5b0 : ((bt a0 x3_1) == 0) = false := beq_eq_false_iff_ne.mpr c5
            have c5b1 : ((bt a0 x3_1) != 0) = true := bne_iff_ne.mpr c5
            have H' := Aside0.mk H
            clear H
            have p4 : 0 ≤ (x3_1 : Int) := of_decide_eq_true (by first | (with_reducible assumption) | assumption)
            have q4 : x3_1 < (a0.size : Int) := of_decide_eq_true (by first | (with_reducible assumption) | assumption)
            have hx4 := bt_at a0 x3_1
            replace p4 := eq_true p4
            replace q4 := eq_true q4
            go_wp2
            go_roundg k1
            case measure => have := HK1.out; omega
            case rel => exact ⟨(wrap64 (x3_1 + 1)), (by first | rfl | (simp; done) | (simp [*]; done)), H', ⟨by have := HK1.out; omega⟩, by repeat (first | exact Drawn0.refl _ | apply Drawn0.step)⟩
        · rw [if_neg c3] at H
          exact absurd H (by simp)
      · rw [if_neg c2] at H
        have c2b0 : decide (x3_1 < (a0.size : Int)) = false := decide_eq_false c2
        clear c2
        obtain rfl := Option.some.inj H
        go_wp2
        go_ret
        exact ⟨by first | rfl | (simp; done) | (simp [*]; done), by repeat (first | exact Drawn0.refl _ | apply Drawn0.step)⟩

end Go.Proofs.YtidlgdpjcognpaaDoor.P

-- written by xprint.py (the kit's print.py, turned), out of the translation; Lean checks it.
namespace Go.Proofs.YtidlgdpjcognpaaDoor.P
open Go.Proofs.YtidlgdpjcognpaaDoor.X
open Go.RowKit Go.Proofs.YtidlgdpjcognpaaDoorW.PrintWords Go.Proofs.YtidlgdpjcognpaaDoorW.PrintLast Go.Proofs.YtidlgdpjcognpaaDoorW.PrintMore
attribute [local go_sem] max2_int min2_int max_two min_two max_three min_three max_four min_four   -- for this text's walks alone
set_option linter.unusedVariables false
set_option linter.unusedSimpArgs false

/-! ### hogsheadref12_mode: function 42 -/
def hogsheadref12_mode.f (a0 : Int) : Option (ByteArray) := (some (([(⟨#[]⟩ : ByteArray), (⟨#[48, 48, 48, 48, 55, 53, 53]⟩ : ByteArray), (⟨#[48, 48, 48, 48, 54, 52, 52]⟩ : ByteArray), (⟨#[48, 48, 48, 48, 55, 53, 53]⟩ : ByteArray), (⟨#[48, 48, 48, 48, 55, 55, 55]⟩ : ByteArray), (⟨#[48, 48, 48, 48, 54, 52, 52]⟩ : ByteArray)] : List ByteArray) : List ByteArray)).bind fun y295 => (if 0 ≤ a0 then (if a0 < (y295.length : Int) then (some (rdOf ByteArray.empty y295 a0)) else (none)) else (none))
set_option maxHeartbeats 8000000 in
set_option maxRecDepth 100000 in
theorem hogsheadref12_mode.calls (a0 : Int) (r : ByteArray) (w : World) (h : hogsheadref12_mode.f a0 = some r) :
    Calls Tryd.prog 42 #[.int .i64 a0] w fun e w' => e = .returned (.string r) ∧ Below w.heap.size w w' := by
  have HB := Aside0.mk (Below.refl w.heap.size w)
  have H : ((some (([(⟨#[]⟩ : ByteArray), (⟨#[48, 48, 48, 48, 55, 53, 53]⟩ : ByteArray), (⟨#[48, 48, 48, 48, 54, 52, 52]⟩ : ByteArray), (⟨#[48, 48, 48, 48, 55, 53, 53]⟩ : ByteArray), (⟨#[48, 48, 48, 48, 55, 55, 55]⟩ : ByteArray), (⟨#[48, 48, 48, 48, 54, 52, 52]⟩ : ByteArray)] : List ByteArray) : List ByteArray)).bind fun y295 => (if 0 ≤ a0 then (if a0 < (y295.length : Int) then (some (rdOf ByteArray.empty y295 a0)) else (none)) else (none))) = some r := h
  clear h
  obtain ⟨y295, hy295⟩ : ∃ y_ : List ByteArray, y_ = (([(⟨#[]⟩ : ByteArray), (⟨#[48, 48, 48, 48, 55, 53, 53]⟩ : ByteArray), (⟨#[48, 48, 48, 48, 54, 52, 52]⟩ : ByteArray), (⟨#[48, 48, 48, 48, 55, 53, 53]⟩ : ByteArray), (⟨#[48, 48, 48, 48, 55, 55, 55]⟩ : ByteArray), (⟨#[48, 48, 48, 48, 54, 52, 52]⟩ : ByteArray)] : List ByteArray)) := ⟨_, rfl⟩
  replace H : (if 0 ≤ a0 then (if a0 < (y295.length : Int) then (some (rdOf ByteArray.empty y295 a0)) else (none)) else (none)) = some r := by first | (rw [hy295]; with_reducible exact H) | (have H2_ := (Option.bind_some _ _).symm.trans H; rw [hy295]; with_reducible exact H2_) | (have H2_ := (Option.bind_some _ _).symm.trans H; with_reducible exact H2_) | with_reducible exact H | (rw [hy295]; exact H) | exact H
  have Ny295 := Aside0.mk hy295
  clear hy295
  by_cases c2 : 0 ≤ a0
  · rw [if_pos c2] at H
    have c2b0 : decide (0 ≤ a0) = true := decide_eq_true c2
    clear c2
    by_cases c3 : a0 < (y295.length : Int)
    · rw [if_pos c3] at H
      have c3b0 : decide (a0 < (y295.length : Int)) = true := decide_eq_true c3
      clear c3
      obtain rfl := Option.some.inj H
      go_enter Tryd.func42, Tryd.ntmps42
      go_wp2_with (first | ((with_reducible refine gate_dst (N := 3) rfl ?_); refine Kd.R_lit Kd.string _ 9 ?hg (N := 3) ?hd (xs := ([(⟨#[]⟩ : ByteArray), (⟨#[48, 48, 48, 48, 55, 53, 53]⟩ : ByteArray), (⟨#[48, 48, 48, 48, 54, 52, 52]⟩ : ByteArray), (⟨#[48, 48, 48, 48, 55, 53, 53]⟩ : ByteArray), (⟨#[48, 48, 48, 48, 55, 55, 55]⟩ : ByteArray), (⟨#[48, 48, 48, 48, 54, 52, 52]⟩ : ByteArray)] : List ByteArray)) (inner := [.string (⟨#[]⟩ : ByteArray), .string (⟨#[48, 48, 48, 48, 55, 53, 53]⟩ : ByteArray), .string (⟨#[48, 48, 48, 48, 54, 52, 52]⟩ : ByteArray), .string (⟨#[48, 48, 48, 48, 55, 53, 53]⟩ : ByteArray), .string (⟨#[48, 48, 48, 48, 55, 55, 55]⟩ : ByteArray), .string (⟨#[48, 48, 48, 48, 54, 52, 52]⟩ : ByteArray)]) (ok := fun _ => True) (okp := fun _ => True) ?hr ?hp (fun _ hk => hk) trivial (Below.refl _ _) (Nat.le_refl _) (by simp) ?_; (case hd => rfl); (case hg => rfl); (case hr => first | (go_simp; done) | (go_simp; rfl)); (case hp => exact (Reps.one (show Kd.M Kd.string _ _ _ (⟨#[]⟩ : ByteArray) [.string (⟨#[]⟩ : ByteArray)] from rfl) (Reps.one (show Kd.M Kd.string _ _ _ (⟨#[48, 48, 48, 48, 55, 53, 53]⟩ : ByteArray) [.string (⟨#[48, 48, 48, 48, 55, 53, 53]⟩ : ByteArray)] from rfl) (Reps.one (show Kd.M Kd.string _ _ _ (⟨#[48, 48, 48, 48, 54, 52, 52]⟩ : ByteArray) [.string (⟨#[48, 48, 48, 48, 54, 52, 52]⟩ : ByteArray)] from rfl) (Reps.one (show Kd.M Kd.string _ _ _ (⟨#[48, 48, 48, 48, 55, 53, 53]⟩ : ByteArray) [.string (⟨#[48, 48, 48, 48, 55, 53, 53]⟩ : ByteArray)] from rfl) (Reps.one (show Kd.M Kd.string _ _ _ (⟨#[48, 48, 48, 48, 55, 55, 55]⟩ : ByteArray) [.string (⟨#[48, 48, 48, 48, 55, 55, 55]⟩ : ByteArray)] from rfl) (Reps.one (show Kd.M Kd.string _ _ _ (⟨#[48, 48, 48, 48, 54, 52, 52]⟩ : ByteArray) [.string (⟨#[48, 48, 48, 48, 54, 52, 52]⟩ : ByteArray)] from rfl) (Reps.none _ _)))))))); intro v296 w4 ho5 hb hg_ hnew_; clear hg_ hnew_; (first | rw [← Ny295.out] at ho5 | (simp only [Int.reduceToNat] at ho5; rw [← Ny295.out] at ho5)); have n0_ := Aside0.mk (Kd.R_lower ho5 (below_size (by repeat (first | (with_reducible first | exact HB.out | apply below_alloc | apply pw_below_drewN | apply below_drew1) | exact HB.out)))); have n1_ := Aside0.mk (below_step (by repeat (first | (with_reducible first | exact HB.out | apply below_alloc | apply pw_below_drewN | apply below_drew1) | exact HB.out)) hb); clear HB; have HO297 := n0_; have HB := n1_; clear n0_ n1_; clear hb ho5; obtain ⟨Ao6, co6, eo6⟩ := Kd.R_slice HO297.out; subst eo6; have p298 : 0 ≤ (a0 : Int) := of_decide_eq_true (by first | (with_reducible assumption) | assumption); have q298 : a0 < (y295.length : Int) := of_decide_eq_true (by first | (with_reducible assumption) | assumption); obtain ⟨ad298, e298, hx298_0⟩ := Kd.at_string (Kd.R_reads' HO297.out).2.2 a0 p298 q298; cases e298; replace p298 := eq_true p298; replace q298 := eq_true q298))
      go_ret
      exact ⟨by first | rfl | (simp [errW_none, errW_some] <;> rfl) | (simp [*, errW_none, errW_some] <;> rfl), by repeat (first | (with_reducible first | exact HB.out | apply below_alloc | apply pw_below_drewN | apply below_drew1) | exact HB.out)⟩
    · rw [if_neg c3] at H
      exact absurd H (by simp)
  · rw [if_neg c2] at H
    exact absurd H (by simp)

end Go.Proofs.YtidlgdpjcognpaaDoor.P

-- written by xprint.py (the kit's print.py, turned), out of the translation; Lean checks it.
namespace Go.Proofs.YtidlgdpjcognpaaDoor.P
open Go.Proofs.YtidlgdpjcognpaaDoor.X
open Go.RowKit Go.Proofs.YtidlgdpjcognpaaDoorW.PrintWords Go.Proofs.YtidlgdpjcognpaaDoorW.PrintLast Go.Proofs.YtidlgdpjcognpaaDoorW.PrintMore
attribute [local go_sem] max2_int min2_int max_two min_two max_three min_three max_four min_four   -- for this text's walks alone
set_option linter.unusedVariables false
set_option linter.unusedSimpArgs false

/-! ### hogsheadref12_letter: function 43 -/
def hogsheadref12_letter.f (a0 : Int) : Option (Int) := if 0 ≤ a0 then (if a0 < 6 then (some (bt (⟨#[32, 53, 48, 48, 50, 120]⟩ : ByteArray) a0)) else (none)) else (none)
set_option maxHeartbeats 8000000 in
set_option maxRecDepth 100000 in
theorem hogsheadref12_letter.calls (a0 : Int) (r : Int) (w : World) (h : hogsheadref12_letter.f a0 = some r) :
    Calls Tryd.prog 43 #[.int .i64 a0] w fun e w' => e = .returned (.int .u8 r) ∧ Drawn0 w w' := by
  have H : (if 0 ≤ a0 then (if a0 < 6 then (some (bt (⟨#[32, 53, 48, 48, 50, 120]⟩ : ByteArray) a0)) else (none)) else (none)) = some r := h
  clear h
  by_cases c2 : 0 ≤ a0
  · rw [if_pos c2] at H
    have c2b0 : decide (0 ≤ a0) = true := decide_eq_true c2
    clear c2
    by_cases c3 : a0 < 6
    · rw [if_pos c3] at H
      have c3b0 : decide (a0 < 6) = true := decide_eq_true c3
      clear c3
      obtain rfl := Option.some.inj H
      have p4 : 0 ≤ (a0 : Int) := of_decide_eq_true (by first | (with_reducible assumption) | assumption)
      have q4 : a0 < (6 : Int) := of_decide_eq_true (by first | (with_reducible assumption) | assumption)
      have hx4 := bt_at (⟨#[32, 53, 48, 48, 50, 120]⟩ : ByteArray) a0
      replace p4 := eq_true p4
      replace q4 := eq_true q4
      go_enter Tryd.func43, Tryd.ntmps43
      go_wp2
      go_ret
      exact ⟨by first | rfl | (simp; done) | (simp [*]; done), by repeat (first | exact Drawn0.refl _ | apply Drawn0.step)⟩
    · rw [if_neg c3] at H
      exact absurd H (by simp)
  · rw [if_neg c2] at H
    exact absurd H (by simp)

end Go.Proofs.YtidlgdpjcognpaaDoor.P
