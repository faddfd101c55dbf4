/- Plain words on texts, bytes and lists. -/
import Derived.Test.YtidlgdpjcognpaaDoorXT
import Derived.Test.YtidlgdpjcognpaaDoorXD
import Derived.Lib.IndexMore
import Derived.Lib.Bytealg
import Derived.Laws.BitsAllLaws
import Derived.Lib.Repeat
import Derived.WalkKit
namespace Go.Proofs.YtidlgdpjcognpaaDoor.X
open Go.RowKit Go.Proofs.YtidlgdpjcognpaaDoorW.PrintWords
set_option linter.unusedVariables false
set_option linter.unusedSimpArgs false

theorem wrap_up {i : Int} {n : Nat} (h0 : 0 ≤ i) (h : i < (n : Int)) (hn : n ≤ 9223372036854775807) : wrap64 (i + 1) = i + 1 := by
  unfold wrap64
  omega
theorem rd_getElem (xs : List Int) (j : Nat) (h : j < xs.length) : rd xs (j : Int) = xs[j] := by
  simp [rd, List.getD_eq_getElem?_getD, h]

theorem repeatL_zero : ∀ n, Lib.repeatL [48] n = List.replicate n (dch 0)
  | 0 => rfl
  | n + 1 => by rw [Lib.repeatL, repeatL_zero n, List.replicate_succ]; rfl
theorem size_mk (l : List UInt8) : (⟨l.toArray⟩ : ByteArray).size = l.length := by simp [ByteArray.size]
theorem append_mk (l m : List UInt8) : (⟨l.toArray⟩ : ByteArray) ++ ⟨m.toArray⟩ = ⟨(l ++ m).toArray⟩ := by
  apply ByteArray.ext
  simp
theorem strOf_nums (l : List UInt8) : strOfNums (l.map fun b => (b.toNat : Int)) = ⟨l.toArray⟩ := by
  unfold strOfNums
  congr 2
  simp [List.map_map, Function.comp_def]
theorem xor_cancel_right {a b c : Nat} (h : a ^^^ c = b ^^^ c) : a = b := by
  have := congrArg (· ^^^ c) h
  simpa [Nat.xor_assoc] using this
theorem xor_cancel_left {a b c : Nat} (h : c ^^^ a = c ^^^ b) : a = b := by
  rw [Nat.xor_comm c a, Nat.xor_comm c b] at h
  exact xor_cancel_right h
theorem bt_nat (s : ByteArray) (i : Nat) (h : i < s.size) : bt s (i : Int) = ((s.data.toList[i]'(by rw [data_length]; exact h)).toNat : Int) := by
  simp [bt, h]
  rfl
theorem drop_data (s : ByteArray) (i : Nat) (h : i < s.size) : s.data.toList.drop i = (s.data.toList[i]'(by rw [data_length]; exact h)) :: s.data.toList.drop (i + 1) := List.drop_eq_getElem_cons (by rw [data_length]; exact h)
theorem toList_nil (s : ByteArray) : s.toList = [] ↔ s.size = 0 := by
  rw [ByteArray.toList_eq, ← List.length_eq_zero_iff, data_length]
theorem indexByte_none (l : List UInt8) (c : UInt8) : Lib.indexByte l c < 0 ↔ c ∉ l := by
  induction l with
  | nil => simp [Lib.indexByte]
  | cons b l ih =>
    unfold Lib.indexByte
    have hg := Lib.indexByte_ge l c
    by_cases h : b = c
    · subst h; simp
    · rw [if_neg (by simpa using h)]
      by_cases e : Lib.indexByte l c = -1
      · rw [if_pos (by simpa using e)]
        have := ih.1 (by omega)
        simp [this, Ne.symm h]
      · rw [if_neg (by simpa using e)]
        have : ¬ c ∉ l := fun x => by have := ih.2 x; omega
        simp only [List.mem_cons, not_or]
        constructor
        · intro; omega
        · rintro ⟨_, x⟩; exact absurd x this
theorem wrap_i (i n : Nat) (h : i < n) (hn : n ≤ 9223372036854775807) : wrap64 ((i : Int) + 1) = ((i + 1 : Nat) : Int) := by unfold wrap64; omega
def Bytes (xs : List Int) : Prop := ∀ x ∈ xs, 0 ≤ x ∧ x ≤ 255
theorem Bytes.append {a b : List Int} (ha : Bytes a) (hb : Bytes b) : Bytes (a ++ b) := fun x hx => (List.mem_append.1 hx).elim (ha x) (hb x)
theorem Bytes.left {a b : List Int} (h : Bytes (a ++ b)) : Bytes a := fun x hx => h x (List.mem_append_left _ hx)
theorem Bytes.right {a b : List Int} (h : Bytes (a ++ b)) : Bytes b := fun x hx => h x (List.mem_append_right _ hx)
theorem bytesOf_Bytes (s : ByteArray) : Bytes (bytesOf s) := by
  intro x hx
  unfold bytesOf at hx
  obtain ⟨c, _, rfl⟩ := List.mem_map.1 hx
  have := c.toNat_lt
  omega
theorem rep_Bytes (n : Nat) : Bytes (List.replicate n 0) := by
  intro x hx
  have := List.eq_of_mem_replicate hx
  omega
def u8 (n : Int) : UInt8 := UInt8.ofNat n.toNat
theorem strOfNums_mk (xs : List Int) : strOfNums xs = ⟨(xs.map u8).toArray⟩ := rfl
theorem u8_zero (x : Int) (h : 0 ≤ x ∧ x ≤ 255) : u8 x = 0 ↔ x = 0 := by
  unfold u8
  obtain ⟨n, rfl⟩ := Int.eq_ofNat_of_zero_le h.1
  rw [← UInt8.toNat_inj]
  have : (0 : UInt8).toNat = 0 := rfl
  simp
  omega
theorem bytesOf_str (xs : List Int) (h : Bytes xs) : bytesOf (strOfNums xs) = xs := by
  unfold bytesOf strOfNums
  simp only [List.map_map]
  conv => rhs; rw [← List.map_id xs]
  apply List.map_congr_left
  intro x hxm
  have := h x hxm
  simp
  omega
theorem bytesOf_inj {a b : ByteArray} (h : bytesOf a = bytesOf b) : a = b := by
  apply ByteArray.ext
  apply Array.ext'
  unfold bytesOf at h
  exact List.map_inj_right (f := fun b : UInt8 => (b.toNat : Int)) (fun x y e => UInt8.toNat_inj.1 (by omega)) |>.1 h
theorem str_bytesOf (s : ByteArray) : strOfNums (bytesOf s) = s := bytesOf_inj (bytesOf_str _ (bytesOf_Bytes s))
theorem str_toList_inj (a b : List Int) (ha : Bytes a) (hb : Bytes b) : (strOfNums a).toList = (strOfNums b).toList ↔ a = b := by
  rw [ByteArray.toList_eq, ByteArray.toList_eq]
  constructor
  · intro h
    have e : strOfNums a = strOfNums b := ByteArray.ext (Array.ext' h)
    rw [← bytesOf_str a ha, ← bytesOf_str b hb, e]
  · intro h; rw [h]

theorem cut_first (l : List UInt8) (c : UInt8) : (Lib.cut l [c]).1 = l.takeWhile (· != c) := by
  have h : (if 0 ≤ Lib.index l [c] then l.take (Lib.index l [c]).toNat else l) = l.takeWhile (· != c) := by
    induction l with
    | nil => rfl
    | cons b l ih =>
      unfold Lib.index
      have hg := Lib.index_ge l [c]
      by_cases e : c = b
      · subst e
        simp
      · have e1 : [c].isPrefixOf (b :: l) = false := by simp [List.isPrefixOf, e]
        have e2 : (b != c) = true := by simpa using Ne.symm e
        rw [e1, List.takeWhile_cons, if_pos e2, ← ih]
        by_cases e3 : Lib.index l [c] = -1
        · rw [e3]; rfl
        · have e4 : (Lib.index l [c] == -1) = false := by simpa using e3
          rw [e4]
          simp only [Bool.false_eq_true, if_false]
          rw [if_pos (by omega), if_pos (by omega)]
          have e5 : (Lib.index l [c] + 1).toNat = (Lib.index l [c]).toNat + 1 := by omega
          rw [e5, List.take_succ_cons]
  unfold Lib.cut
  rw [← h]
  split <;> rfl
theorem takeWhile_u8 (l : List Int) (h : Bytes l) : (l.map u8).takeWhile (· != 0) = (l.takeWhile (· != 0)).map u8 := by
  induction l with
  | nil => rfl
  | cons x l ih =>
    have hx := u8_zero x (h x List.mem_cons_self)
    have ih := ih (fun y hy => h y (List.mem_cons_of_mem _ hy))
    rw [List.map_cons, List.takeWhile_cons, List.takeWhile_cons]
    by_cases e : x = 0
    · have e1 := hx.2 e
      rw [if_neg (by simp [e1]), if_neg (by simp [e])]
      rfl
    · have e1 : ¬ u8 x = 0 := fun y => e (hx.1 y)
      rw [if_pos (by simpa using e1), if_pos (by simpa using e), ih]
      rfl
theorem Bytes.sub {l m : List Int} (h : Bytes l) (hm : ∀ x ∈ m, x ∈ l) : Bytes m := fun x hx => h x (hm x hx)
theorem Bytes.take {l : List Int} (h : Bytes l) (n : Nat) : Bytes (l.take n) := h.sub fun x hx => List.mem_of_mem_take hx
theorem Bytes.drop {l : List Int} (h : Bytes l) (n : Nat) : Bytes (l.drop n) := h.sub fun x hx => List.mem_of_mem_drop hx
theorem xor_other (b z : Nat) (hb : b < 256) (hz : z < 256) (h0 : z ≠ 0) : bits .xor .u8 (b : Int) (z : Int) ≠ (b : Int) ∧ 0 ≤ bits .xor .u8 (b : Int) (z : Int) ∧ bits .xor .u8 (b : Int) (z : Int) ≤ 255 := by
  rw [u8_xor_nat b z hb hz]
  have : b ^^^ z < 256 := Nat.xor_lt_two_pow (n := 8) (by omega) (by omega)
  refine ⟨fun e => h0 ?_, by omega, by omega⟩
  have e2 : b ^^^ z = b ^^^ 0 := by rw [Nat.xor_zero]; omega
  exact xor_cancel_left e2
theorem wrap_one (j : Nat) (h : (j : Int) < 255) : wrap64 (1 + (j : Int)) % 256 = ((1 + j : Nat) : Int) := by
  have e0 : wrap64 (1 + (j : Int)) = 1 + (j : Int) := by unfold wrap64; omega
  rw [e0, Int.emod_eq_of_lt (by clear e0; omega) (by clear e0; omega)]
  rfl

theorem sum_set : ∀ (l : List Int) (i : Nat) (v : Int) (h : i < l.length), (l.set i v).sum = l.sum - l[i] + v
  | x :: l, 0, v, _ => by simp; omega
  | x :: l, i + 1, v, h => by
    have := sum_set l i v (by simpa using h)
    simp only [List.set_cons_succ, List.sum_cons, List.getElem_cons_succ]
    omega
theorem Bytes.set {l : List Int} (h : Bytes l) (i : Nat) (v : Int) (hv : 0 ≤ v ∧ v ≤ 255) : Bytes (l.set i v) := fun x hx => (List.mem_or_eq_of_mem_set hx).elim (h x) (fun e => e ▸ hv)

end Go.Proofs.YtidlgdpjcognpaaDoor.X
