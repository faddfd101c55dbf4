/- Part 2 of what is behind the row RowUntarTurned: XAP, Pf121, Pf99, XAQ, Pf56, XAT, XAU, Pf61, Pf58, Pf60, XCD, XCE, XCF, XCK, Pf91, Pf92, Pf73, Pf54, Pf41. -/
import Derived.Test.YtdijnmcfpbceaaaGreatDoorMUT1
import Derived.Outline
import Derived.WalkLawsBesides
import Derived.WalkSpells
import Derived.LoopTactic
import Derived.Laws.Bits64b
import Derived.Laws.BytesArg
import Derived.Lib.Hide
import Derived.Laws.NewBlocks
import Derived.Lib.AppendIntMem
import Derived.Shelf.Strings.Builder1
import Derived.Shelf.Strings.Builder2
import Derived.Shelf.Small.Utf8
import Derived.Shelf.Small.Strs
import Derived.Shelf.Strings.BuilderF
import Derived.Shelf.Strings.BuilderK
import Derived.Shelf.Utf8.RuneCount
import Derived.Shelf.Strconv.Atoi
import Derived.Shelf.Strconv.Itoa0
import Derived.Shelf.Strconv.Itoa1
import Derived.Shelf.LaysM
import Derived.Shelf.Strconv.Itoa2
import Derived.Shelf.Strconv.Itoa3
import Derived.Shelf.Strconv.Itoa4
import Derived.Shelf.Strconv.AtoiErrFast
import Derived.Shelf.Strconv.ParseIntEmpty
import Derived.Shelf.Strconv.AtoiFail
import Derived.Shelf.Strconv.Clone
import Derived.Shelf.Strconv.SyntaxError
import Derived.Shelf.LaysC
import Derived.Shelf.Strconv.ToError
import Derived.Shelf.Strconv.Lower
import Derived.Shelf.Strconv.ParseUint10
import Derived.Shelf.Strconv.ParseUint10Empty
import Derived.Shelf.Strconv.ParseUint10Any
import Derived.Shelf.Strconv.ParseInt10
import Derived.Shelf.Strconv.AtoiLong
import Derived.Shelf.Strconv.AtoiInnerAll
import Derived.Shelf.Strconv.RangeError
import Derived.Shelf.Strconv.ToErrorRange
import Derived.Shelf.Strconv.AtoiAll
import Derived.Shelf.Strings.Search1
import Derived.Shelf.Strings.Search2
import Derived.Shelf.Strings.Search3
import Derived.Shelf.Strings.Cut
import Derived.Shelf.Strings.Count
import Derived.Shelf.Strings.Shaped
import Derived.Shelf.Strings.Prefix
import Derived.Shelf.Strings.Split
import Derived.Shelf.Strings.SplitShaped
import Derived.Shelf.Unicode.Decode
import Derived.Shelf.Strings.RuneCount
import Derived.Shelf.Strings.Explode
import Derived.Shelf.Bits.Mul64
import Derived.Shelf.Strings.Repeat
import Derived.Shelf.Unicode.DecodeSlow
import Derived.Shelf.Unicode.DecodeAny
import Derived.Shelf.Bytes.Small
import Derived.Test.YtdijnmcfpbceaaaGreatDoorProg
import Derived.WalkKit
import Derived.Lib.ItoaNum
import Derived.Lib.ItoaMem
import Derived.Below
import Derived.Deep.Draws
import Derived.Deep.AppendLies
import Derived.Maps.AppendAt
import Derived.OwnWalk
import Derived.Laws.MakeOwn
import Derived.Laws.OwnMore
import Derived.Deep.OwnRows
import Derived.Tactics
import Derived.Lib.ConvBytes
import Derived.Laws.Slices
import Derived.KernelRfl
import Derived.RowKit3
import Derived.Deep.LoopGhost
import Derived.Deep.QuietTactic
import Derived.BigQuiet
import Derived.WideLaws
import Derived.Deep.DeepCutAuto
import Derived.Deep.CutBlock
import Derived.Deep.RegionHeld3
import Derived.Laws.Rows
import Derived.Lib.AppendStr
import Derived.ArgAppend
import Derived.Laws.IdiomCopy
import Derived.RowKit
import Derived.OrdersHeld
import Derived.Laws.BitsLemmas
import Derived.Laws.Cover1
import Derived.Laws.StructEq
import Derived.Lib.SplitLaws
import Derived.Lib.IndexBytes
import Derived.Lib.IndexLaws
import Derived.Lib.LastIndexByte
import Derived.Lib.IndexMore
import Derived.Lib.Bytealg
import Derived.Laws.BitsAllLaws
import Derived.Lib.Repeat
import Derived.Maps.OwnOps
import Derived.Maps.Views
import Derived.StringKeys
import Derived.Lib.AppendZerosOnto
import Derived.Lib.BufferWrite
import Derived.Laws.CopyOwn
namespace Go.Proofs.YtdijnmcfpbceaaaGreatDoor.X
open Go.RowKit Go.Proofs.YtdijnmcfpbceaaaGreatDoorW.PrintWords Go.Proofs.YtdijnmcfpbceaaaGreatDoorW.PrintLast Go.Proofs.YtdijnmcfpbceaaaGreatDoorW.PrintMore Go.Proofs.YtdijnmcfpbceaaaGreatDoor.P
set_option linter.unusedVariables false
set_option linter.unusedSimpArgs false
theorem qF2 (a b : ByteArray) : strings_HasPrefix.f a b = some (b.data.toList.isPrefixOf a.data.toList) := by
  unfold strings_HasPrefix.f stringslite_HasPrefix.f
  have h1 : b.data.toList.length = b.size := qAh b
  have h2 : a.data.toList.length = a.size := qAh a
  by_cases h : b.size ≤ a.size
  · rw [if_pos (by omega), if_pos (by omega), if_pos (by omega)]
    simp only [Option.bind_some]
    congr 1
    rw [ByteArray.toList_eq, ByteArray.toList_eq, Lib.extract_from_zero, Int.toNat_natCast, ← h1, Bool.eq_iff_iff, beq_iff_eq, List.isPrefixOf_iff_prefix, List.prefix_iff_eq_take]
    exact eq_comm
  · rw [if_neg (by omega)]
    simp only [Option.bind_some]
    congr 1
    symm
    rw [Bool.eq_false_iff]
    intro hp
    have := (List.isPrefixOf_iff_prefix.1 hp).length_le
    omega
theorem qJu (s : ByteArray) : path_Part.f s = some (partB s.data.toList) := by
  unfold path_Part.f partB strings_IndexByte.f
  rw [qF2]
  rw [show (⟨#[46, 119, 104, 46]⟩ : ByteArray).data.toList = [46, 119, 104, 46] from rfl]
  rw [ByteArray.toList_eq]
  have hl : (s.size : Int) = (s.data.toList.length : Int) := by rw [qAh]
  rw [hl]
  generalize s.data.toList = l
  simp only [Option.bind_some]
  have i1 := indexByte_none l 47
  have i2 := indexByte_none l 0
  rw [show ((47 : Int).toNat.toUInt8) = (47 : UInt8) from rfl, show ((0 : Int).toNat.toUInt8) = (0 : UInt8) from rfl]
  simp only [i1, i2]
  by_cases h1 : l = []
  · simp [h1]
  · by_cases h2 : l.length ≤ 60
    · have h2' : (l.length : Int) ≤ 60 := by omega
      by_cases h3 : (47 : UInt8) ∈ l
      · simp [h1, h2, h2', h3]
      · by_cases h4 : (0 : UInt8) ∈ l
        · simp [h1, h2, h2', h3, h4]
        · by_cases h5 : l = [46]
          · subst h5; simp
          · by_cases h6 : l = [46, 46]
            · subst h6; simp
            · simp [h1, h2, h2', h3, h4, h5, h6]
    · have h2' : ¬ (l.length : Int) ≤ 60 := by omega
      simp [h1, h2, h2']
def pieces (p : ByteArray) : List ByteArray := Lib.splitB ⟨#[47]⟩ 0 (Lib.countB p ⟨#[47]⟩) p
set_option maxHeartbeats 4000000 in
theorem qGl (p : ByteArray) (w : World) (hT : Aside0 (Tabs w)) :
    Calls Tryz.prog 97 #[.string p] w fun e w' => ∃ v, e = .returned (.tuple #[v, .bool (pathB p.data.toList)]) ∧ Below w.heap.size w w' := by
  obtain ⟨b0, hb0⟩ : ∃ b, (p.toList == []) = b := ⟨_, rfl⟩
  obtain ⟨b1, hb1⟩ : ∃ b, decide ((200 : Int) < (p.size : Int)) = b := ⟨_, rfl⟩
  go_enter Tryz.func97, Tryz.ntmps97
  cases b0 with
  | true =>
    have HP := Aside0.mk (show pathB p.data.toList = true by
      rw [beq_iff_eq, ByteArray.toList_eq] at hb0
      unfold pathB
      rw [decide_eq_true hb0, Bool.true_or])
    go_wp2_with fail
    go_ret2
    exact ⟨.slice none 0 0, by rw [HP.out]; rfl, Below.refl _ _⟩
  | false =>
    have HE := Aside0.mk (show p.data.toList ≠ [] by
      rw [beq_eq_false_iff_ne, ByteArray.toList_eq] at hb0
      exact hb0)
    cases b1 with
    | true =>
      have HP := Aside0.mk (show pathB p.data.toList = false by
        have := of_decide_eq_true hb1
        unfold pathB
        rw [decide_eq_false HE.out, Bool.false_or, decide_eq_false (by rw [qAh]; omega)]
        rfl)
      go_wp2_with fail
      go_ret2
      exact ⟨.slice none 0 0, by rw [HP.out]; rfl, Below.refl _ _⟩
    | false =>
      have hn : p.size ≤ 200 := by
        have := of_decide_eq_false hb1
        omega
      obtain ⟨m, hm⟩ := hT.out.maxl
      have HC := Aside0.mk (Tryz.strings_Split p ⟨#[47]⟩ m w (by omega) hm (by decide))
      have HL := Aside0.mk (show (pieces p).length = Lib.countB p ⟨#[47]⟩ + 1 ∧ (pieces p).map (·.data.toList) = cutL 47 p.data.toList from ⟨Lib.splitB_all ⟨#[47]⟩ (by decide) 0 _ p rfl, by
        unfold pieces
        rw [Lib.splitB_data]
        exact qEd 47 _ _ (Lib.count_one 47 _).symm⟩)
      clear hm
      go_wp2_with fail
      refine HC.out.mono ?_
      rintro e w1 ⟨rfl, hw1⟩
      have HB1 := Aside0.mk (show Below w.heap.size w w1 from by rw [hw1]; exact qAb (Below.refl _ _) _)
      have HS1 := Aside0.mk (strsG (pieces p) (show w1.heap[w.heap.size]? = some (.cells ((pieces p).map Value.string).toArray 9 (0, 0)) from by rw [hw1]; exact qA7 w _) (by rw [HL.out.1]; have := Lib.countB_le ⟨#[47]⟩ (by decide) p.size p (Nat.le_refl _); omega))
      have hnl : (pieces p).length ≤ 201 := by
        have := Lib.countB_le ⟨#[47]⟩ (by decide) p.size p (Nat.le_refl _)
        rw [HL.out.1]
        omega
      rw [← HL.out.1]
      have HPath := Aside0.mk (show pathB p.data.toList = ((pieces p).all (fun s => partB s.data.toList) && decide ((pieces p).length ≤ 10)) from by
        unfold pathB
        rw [decide_eq_false HE.out, Bool.false_or, decide_eq_true (by rw [qAh]; exact hn), Bool.true_and, ← HL.out.2, List.all_map, List.length_map]
        rfl)
      clear hw1 HC HL
      generalize pieces p = PS at *
      generalize w.heap.size = g at HS1
      go_wp2_with fail
      go_loopw [16] (fun v16 wr => ∃ (i : Nat), v16 = .int .i64 i ∧ i ≤ PS.length ∧ Aside0 (∀ j (h : j < PS.length), j < i → partB PS[j].data.toList = true) ∧ Aside0 (Below w.heap.size w wr) ∧ Aside0 (Below w1.heap.size w1 wr)) (fun a _ => PS.length - (intOf a).toNat)
      case atStart => exact ⟨0, rfl, by omega, ⟨fun j h h2 => by omega⟩, HB1, ⟨Below.refl _ _⟩⟩
      case round =>
        obtain ⟨i, rfl, hi, HI, HB, HW⟩ := hrel
        by_cases hil : i < PS.length
        · have hic : decide ((i : Int) < (PS.length : Int)) = true := by simp; omega
          have hi0 : 0 ≤ (i : Int) := by omega
          obtain ⟨ad, hq, hk0⟩ := Kd.at_string (Kd.C_below HS1.out HW.out) (i : Int) hi0 (by omega)
          injection hq with hq
          subst hq
          simp only [Int.toNat_natCast] at hk0
          have hk1 := hk0
          rw [addG] at hk1
          have HM := Aside0.mk (show rdOf ByteArray.empty PS (i : Int) = PS[i] from by simp [rdOf, List.getD_eq_getElem?_getD, hil])
          generalize rdOf ByteArray.empty PS (i : Int) = s at *
          go_wp2_with fail
          refine (path_Part.calls s _ wr (qJu s)).mono ?_
          rintro e w2 ⟨rfl, hd2⟩
          have HB2 := Aside0.mk (qAe HB.out hd2.below)
          have HW2 := Aside0.mk (qAe HW.out hd2.below)
          clear hd2 HB HW
          obtain ⟨bp, hbp⟩ : ∃ b, partB s.data.toList = b := ⟨_, rfl⟩
          cases bp with
          | true =>
            rw [hbp]
            go_wp2_with fail
            refine ⟨⟨i + 1, by simp, by omega, ⟨fun j h h2 => ?_⟩, HB2, HW2⟩, by simp [intOf]; omega⟩
            rcases Nat.lt_or_ge j i with h3 | h3
            · exact HI.out j h h3
            · obtain rfl : j = i := by omega
              rw [← HM.out]
              exact hbp
          | false =>
            rw [hbp]
            have HF := Aside0.mk (show pathB p.data.toList = false from by
              rw [HPath.out, List.all_eq_false.2 ⟨PS[i], List.getElem_mem _, by rw [← HM.out, hbp]; simp⟩, Bool.false_and])
            go_wp2_with fail
            go_ret2
            exact ⟨.slice none 0 0, by rw [HF.out]; rfl, HB2.out⟩
        · have hic : decide ((i : Int) < (PS.length : Int)) = false := by simp; omega
          have HA := Aside0.mk (show PS.all (fun s => partB s.data.toList) = true from List.all_eq_true.2 (fun s hs => by
            obtain ⟨j, hj, e⟩ := List.mem_iff_getElem.1 hs
            rw [← e]
            exact HI.out j hj (by omega)))
          have HF := Aside0.mk (show pathB p.data.toList = decide (PS.length ≤ 10) from by rw [HPath.out, HA.out, Bool.true_and])
          obtain ⟨b9, hb9⟩ : ∃ b, decide ((PS.length : Int) ≤ 10) = b := ⟨_, rfl⟩
          have HF9 := Aside0.mk (show decide (PS.length ≤ 10) = b9 from by rw [← hb9]; exact decide_eq_decide.2 (by omega))
          go_wp2_with fail
          go_ret2
          exact ⟨_, by rw [HF.out, HF9.out]; rfl, HB.out⟩
theorem qFy (p : ByteArray) (w : World) (hT : Aside0 (Tabs w)) :
    Calls Tryz.prog 76 #[.string p] w fun e w' => e = .returned (.bool (pathB p.data.toList)) ∧ Below w.heap.size w w' := by
  go_enter Tryz.func76, Tryz.ntmps76
  go_wp2_with fail
  refine (qGl p w hT).mono ?_
  rintro e w1 ⟨v, rfl, hb⟩
  have HB := Aside0.mk hb
  clear hb
  go_wp2_with fail
  go_ret
  exact ⟨rfl, HB.out⟩
def path_May.f (p : ByteArray) : Option Bool := some (pathB p.data.toList)
theorem path_May.calls (p : ByteArray) (r : Bool) (w : World) (hT : Aside0 (Tabs w)) (h : path_May.f p = some r) :
    Calls Tryz.prog 76 #[.string p] w fun e w' => e = .returned (.bool r) ∧ Below w.heap.size w w' := by
  cases h
  exact qFy p w hT
end Go.Proofs.YtdijnmcfpbceaaaGreatDoor.X

namespace Go.Proofs.YtdijnmcfpbceaaaGreatDoor.P
open Go.Proofs.YtdijnmcfpbceaaaGreatDoor.X
open Go.RowKit Go.Proofs.YtdijnmcfpbceaaaGreatDoorW.PrintWords Go.Proofs.YtdijnmcfpbceaaaGreatDoorW.PrintLast Go.Proofs.YtdijnmcfpbceaaaGreatDoorW.PrintMore
attribute [local go_sem] qAr qAu
set_option linter.unusedVariables false
set_option linter.unusedSimpArgs false
def bytealg_LastIndexByteString.l0 : Nat → ByteArray → Int → Int → Option (Int)
 | 0, _, _, _ => none
 | k + 1, x0, x1, x5 => if x5 ≥ 0 then (if 0 ≤ x5 then (if x5 < (x0.size : Int) then (if (bt x0 x5) = x1 then (some x5) else (bytealg_LastIndexByteString.l0 k x0 x1 (wrap64 (x5 - 1)))) else (none)) else (none)) else (some (-1))
def bytealg_LastIndexByteString.f (k : Nat) (a0 : ByteArray) (a1 : Int) : Option (Int) := bytealg_LastIndexByteString.l0 k a0 a1 (wrap64 ((a0.size : Int) - 1))
set_option maxHeartbeats 8000000 in
set_option maxRecDepth 100000 in
theorem bytealg_LastIndexByteString.calls (k : Nat) (a0 : ByteArray) (a1 : Int) (r : Int) (w : World) (h : bytealg_LastIndexByteString.f k a0 a1 = some r) :
  Calls Tryz.prog 121 #[.string a0, .int .u8 a1] w fun e w' => e = .returned (.int .i64 r) ∧ Drawn0 w w' := by
 have H : (bytealg_LastIndexByteString.l0 k a0 a1 (wrap64 ((a0.size : Int) - 1))) = some r := h
 clear h
 have H' := Aside0.mk H
 clear H
 go_enter Tryz.func121, Tryz.ntmps121
 go_wp2
 go_loopg [5] k (fun kq v5 w' => ∃ (x5_1 : Int), v5 = .int .i64 x5_1 ∧ Aside0 (bytealg_LastIndexByteString.l0 kq a0 a1 x5_1 = some r) ∧ Aside0 (kq ≤ k) ∧ Drawn0 w w')
 case atStart => exact ⟨(wrap64 ((a0.size : Int) - 1)), (by first | rfl | (simp; done) | (simp [*]; done) | exact congrArg Value.bool (nil_ne _) | exact congrArg Value.bool (nil_eq _) | exact congrArg Value.bool (nil_ne' _)), H', ⟨Nat.le_refl _⟩, by repeat (first | exact Drawn0.refl _ | apply Drawn0.step)⟩
 case round =>
  clear H'
  try clear c1
  try clear p2
  obtain ⟨x5_1, rfl, HA, HK1, ⟨m1, rfl⟩⟩ := hrel
  cases gk with
  | zero => exact absurd HA.out (by simp [bytealg_LastIndexByteString.l0])
  | succ k1 =>
   have H := HA.out
   clear HA
   simp only [bytealg_LastIndexByteString.l0] at H
   by_cases c3 : x5_1 ≥ 0
   ·rw [if_pos c3] at H
    have c3b0 : decide (0 ≤ x5_1) = true := decide_eq_true c3
    clear c3
    by_cases c4 : 0 ≤ x5_1
    ·rw [if_pos c4] at H
     have c4b0 : decide (0 ≤ x5_1) = true := decide_eq_true c4
     clear c4
     by_cases c5 : x5_1 < (a0.size : Int)
     ·rw [if_pos c5] at H
      have c5b0 : decide (x5_1 < (a0.size : Int)) = true := decide_eq_true c5
      clear c5
      by_cases c7 : (bt a0 x5_1) = a1
      ·rw [if_pos c7] at H
       have c7b0 : ((bt a0 x5_1) == a1) = true := beq_iff_eq.mpr c7
       have c7b1 : ((bt a0 x5_1) != a1) = false := bne_eq_false_iff_eq.mpr c7
       clear c7
       obtain rfl := Option.some.inj H
       have p6 : 0 ≤ (x5_1 : Int) := of_decide_eq_true (by first | (with_reducible assumption) | assumption)
       have q6 : x5_1 < (a0.size : Int) := of_decide_eq_true (by first | (with_reducible assumption) | assumption)
       have hx6 := bt_at a0 x5_1
       replace p6 := eq_true p6
       replace q6 := eq_true q6
       go_wp2
       go_ret
       exact ⟨by first | rfl | (simp; done) | (simp [*]; done), by repeat (first | exact Drawn0.refl _ | apply Drawn0.step)⟩
      ·rw [if_neg c7] at H
       have c7b0 : ((bt a0 x5_1) == a1) = false := beq_eq_false_iff_ne.mpr c7
       have c7b1 : ((bt a0 x5_1) != a1) = true := bne_iff_ne.mpr c7
       have H' := Aside0.mk H
       clear H
       have p6 : 0 ≤ (x5_1 : Int) := of_decide_eq_true (by first | (with_reducible assumption) | assumption)
       have q6 : x5_1 < (a0.size : Int) := of_decide_eq_true (by first | (with_reducible assumption) | assumption)
       have hx6 := bt_at a0 x5_1
       replace p6 := eq_true p6
       replace q6 := eq_true q6
       go_wp2
       go_roundg k1
       case measure => have := HK1.out; omega
       case rel => exact ⟨(wrap64 (x5_1 - 1)), (by first | rfl | (simp; done) | (simp [*]; done) | exact congrArg Value.bool (nil_ne _) | exact congrArg Value.bool (nil_eq _) | exact congrArg Value.bool (nil_ne' _)), H', ⟨by have := HK1.out; omega⟩, by repeat (first | exact Drawn0.refl _ | apply Drawn0.step)⟩
     ·rw [if_neg c5] at H
      exact absurd H (by simp)
    ·rw [if_neg c4] at H
     exact absurd H (by simp)
   ·rw [if_neg c3] at H
    have c3b0 : decide (0 ≤ x5_1) = false := decide_eq_false c3
    clear c3
    obtain rfl := Option.some.inj H
    go_wp2
    go_ret
    exact ⟨by first | rfl | (simp; done) | (simp [*]; done), by repeat (first | exact Drawn0.refl _ | apply Drawn0.step)⟩
end Go.Proofs.YtdijnmcfpbceaaaGreatDoor.P

namespace Go.Proofs.YtdijnmcfpbceaaaGreatDoor.P
open Go.Proofs.YtdijnmcfpbceaaaGreatDoor.X
open Go.RowKit Go.Proofs.YtdijnmcfpbceaaaGreatDoorW.PrintWords Go.Proofs.YtdijnmcfpbceaaaGreatDoorW.PrintLast Go.Proofs.YtdijnmcfpbceaaaGreatDoorW.PrintMore
attribute [local go_sem] qAr qAu
set_option linter.unusedVariables false
set_option linter.unusedSimpArgs false
def strings_LastIndexByte.f (k : Nat) (a0 : ByteArray) (a1 : Int) : Option (Int) := (bytealg_LastIndexByteString.f k a0 a1).bind fun t227 => (some t227)
set_option maxHeartbeats 8000000 in
set_option maxRecDepth 100000 in
theorem strings_LastIndexByte.calls (k : Nat) (a0 : ByteArray) (a1 : Int) (r : Int) (w : World) (h : strings_LastIndexByte.f k a0 a1 = some r) :
  Calls Tryz.prog 99 #[.string a0, .int .u8 a1] w fun e w' => e = .returned (.int .i64 r) ∧ Drawn0 w w' := by
 have H : ((bytealg_LastIndexByteString.f k a0 a1).bind fun t227 => (some t227)) = some r := h
 clear h
 replace H := Option.bind_eq_some_iff.mp H
 obtain ⟨t227, A30, H⟩ := H
 replace H : (some t227) = some r := H
 have A3 := Aside0.mk A30
 clear A30
 obtain rfl := Option.some.inj H
 go_enter Tryz.func99, Tryz.ntmps99
 go_wp2_with (first | ((with_reducible refine qAs (f := 121) rfl ?_); refine goesL_ (some 7) rfl rfl Tryz.func121 (by kernel_rfl) rfl #[.string a0, .int .u8 a1] rfl (by (try simp only [List.map_toArray, List.map_cons, List.map_nil]); first | done | rfl | (simp only [List.length_drop, List.length_take]; rfl)) ?_; (with_reducible refine (bytealg_LastIndexByteString.calls k a0 a1 t227 _ A3.out).mono ?_); rintro e w' ⟨rfl, ⟨nd, rfl⟩⟩; refine ⟨_, rfl, ?_⟩))
 go_ret
 exact ⟨by first | rfl | (simp; done) | (simp [*]; done), by repeat (first | exact Drawn0.refl _ | apply Drawn0.step)⟩
end Go.Proofs.YtdijnmcfpbceaaaGreatDoor.P

namespace Go.Proofs.YtdijnmcfpbceaaaGreatDoor.X
open Go.RowKit Go.Proofs.YtdijnmcfpbceaaaGreatDoorW.PrintWords Go.Proofs.YtdijnmcfpbceaaaGreatDoorW.PrintLast Go.Proofs.YtdijnmcfpbceaaaGreatDoorW.PrintMore Go.Proofs.YtdijnmcfpbceaaaGreatDoor.P
set_option linter.unusedVariables false
set_option linter.unusedSimpArgs false
theorem qH2 (p : ByteArray) : upS p = p.extract 0 (max (Lib.lastIndexByte p 47) 0).toNat := by
  have hz : ∀ j, j < p.size → ((p.data[j]!).toNat : Int) ≠ 47 → p.data.toList[j]? ≠ some 47 := fun j hj h e => by
    apply h
    have : p.data[j]? = some 47 := by rw [← Array.getElem?_toList]; exact e
    rw [Array.getElem!_eq_getD, Array.getD_eq_getD_getElem?, this]
    rfl
  have hs : p.data.toList.length = p.size := qAh p
  rcases Lib.lastIndexByte_spec p 47 with ⟨e, h⟩ | ⟨i, hi, e, hc, h⟩
  · rw [e]
    have : (47 : UInt8) ∉ p.data.toList := fun hm => by
      obtain ⟨j, hj, ej⟩ := List.mem_iff_getElem.1 hm
      exact hz j (by omega) (h j (by omega)) (by rw [List.getElem?_eq_getElem hj, ej])
    unfold upS
    rw [qJl this]
    apply qAv
    rw [show (max (-1 : Int) 0).toNat = 0 from rfl, Lib.extract_from_zero]
    rfl
  · rw [e]
    have h1 : p.data.toList[i]? = some 47 := by
      have hd : p.data[i]? = some p.data[i] := Array.getElem?_eq_getElem hi
      rw [Array.getElem!_eq_getD, Array.getD_eq_getD_getElem?, hd] at hc
      rw [Array.getElem?_toList, hd]
      congr 1
      apply UInt8.toNat_inj.1
      have : (p.data[i].toNat : Int) = 47 := hc
      have h47 : (47 : UInt8).toNat = 47 := rfl
      omega
    have h2 : ∀ j, i < j → p.data.toList[j]? ≠ some 47 := fun j hj => by
      rcases Nat.lt_or_ge j p.size with h3 | h3
      · exact hz j h3 (h j hj h3)
      · rw [List.getElem?_eq_none (by omega)]
        simp
    unfold upS
    rw [qJk h1 h2]
    apply qAv
    rw [show (max (i : Int) 0).toNat = i by omega, Lib.extract_from_zero]
theorem qFh (i : Nat) (h : i ≤ 9223372036854775807) : wrap64 ((i : Int) - 1) = (i : Int) - 1 := by unfold wrap64; omega
theorem qIl (s : ByteArray) (c : Int) (hs : s.size ≤ 9223372036854775807) : ∀ (i k : Nat), i ≤ s.size → i < k → bytealg_LastIndexByteString.l0 k s c ((i : Int) - 1) = some (Lib.lastIdx s c i)
  | 0, k, _, hk => by
    obtain ⟨k, rfl⟩ : ∃ m, k = m + 1 := ⟨k - 1, by omega⟩
    rw [bytealg_LastIndexByteString.l0, if_neg (by omega)]
    rfl
  | i + 1, k, hi, hk => by
    obtain ⟨k, rfl⟩ : ∃ m, k = m + 1 := ⟨k - 1, by omega⟩
    have e : ((i + 1 : Nat) : Int) - 1 = (i : Int) := by omega
    rw [e, bytealg_LastIndexByteString.l0, if_pos (by omega), if_pos (by omega), if_pos (by omega), qFh i (by omega)]
    have hb : bt s (i : Int) = ((s.data[i]!).toNat : Int) := by
      rw [bt_nat s i (by omega)]
      have hd : s.data[i]? = some s.data[i] := Array.getElem?_eq_getElem (by exact Nat.lt_of_succ_le hi)
      rw [Array.getElem!_eq_getD, Array.getD_eq_getD_getElem?, hd, Array.getElem_toList]
      rfl
    rw [hb]
    by_cases h : ((s.data[i]!).toNat : Int) = c
    · rw [if_pos h, Lib.lastIdx_hit s c i h]
    · rw [if_neg h, Lib.lastIdx_miss s c i h]
      exact qIl s c hs i k (by omega) (by omega)
theorem qJ2 (s : ByteArray) (c : Int) (hs : s.size ≤ 9223372036854775807) : strings_LastIndexByte.f (s.size + 1) s c = some (Lib.lastIndexByte s c) := by
  unfold strings_LastIndexByte.f bytealg_LastIndexByteString.f
  rw [qFh s.size hs, qIl s c hs s.size _ (by omega) (by omega)]
  rfl
def qBj (p : ByteArray) : ByteArray × Bool := if p.size = 0 ∨ pathB p.data.toList = false then (⟨#[]⟩, false) else (upS p, true)
set_option maxHeartbeats 4000000 in
theorem qFu (p : ByteArray) (w : World) (hT : Aside0 (Tabs w)) :
    Calls Tryz.prog 78 #[.string p] w fun e w' => e = .returned (.tuple #[.string (qBj p).1, .bool (qBj p).2]) ∧ Below w.heap.size w w' := by
  obtain ⟨b0, hb0⟩ : ∃ b, (p.toList == []) = b := ⟨_, rfl⟩
  go_enter Tryz.func78, Tryz.ntmps78
  cases b0 with
  | true =>
    have HP := Aside0.mk (show qBj p = (⟨#[]⟩, false) by
      rw [beq_iff_eq, qAy] at hb0
      unfold qBj
      rw [if_pos (.inl hb0)])
    go_wp2_with fail
    go_ret2
    rw [HP.out]
    exact ⟨rfl, Below.refl _ _⟩
  | false =>
    have hn0 : p.size ≠ 0 := fun e => by
      rw [beq_eq_false_iff_ne] at hb0
      exact hb0 ((qAy p).2 e)
    obtain ⟨b1, hb1⟩ : ∃ b, pathB p.data.toList = b := ⟨_, rfl⟩
    go_wp2_with fail
    refine (qFy p w hT).mono ?_
    rintro e w1 ⟨rfl, hB⟩
    have HB := Aside0.mk hB
    clear hB
    rw [hb1]
    cases b1 with
    | false =>
      have HP := Aside0.mk (show qBj p = (⟨#[]⟩, false) from by
        unfold qBj
        rw [if_pos (.inr hb1)])
      go_wp2_with fail
      go_ret2
      rw [HP.out]
      exact ⟨rfl, HB.out⟩
    | true =>
      have hl : p.size ≤ 200 := by
        unfold pathB at hb1
        rw [Bool.or_eq_true, Bool.and_eq_true, Bool.and_eq_true, decide_eq_true_eq, decide_eq_true_eq, qAh] at hb1
        rcases hb1 with h | h
        · have : p.size = 0 := by rw [← qAh, h]; rfl
          omega
        · exact h.1.1
      have HP := Aside0.mk (show qBj p = (upS p, true) from by
        unfold qBj
        rw [if_neg (by rw [hb1]; simp [hn0])])
      have HU := Aside0.mk (qH2 p)
      have HL := Aside0.mk (qJ2 p 47 (by omega))
      have hlt : (max (Lib.lastIndexByte p 47) 0) ≤ (p.size : Int) := by
        rcases Lib.lastIndexByte_spec p 47 with ⟨e, _⟩ | ⟨i, hi, e, _⟩ <;> rw [e] <;> omega
      have hm0 : 0 ≤ max (Lib.lastIndexByte p 47) 0 := by omega
      clear hb1
      go_wp2_with fail
      refine (strings_LastIndexByte.calls (p.size + 1) p 47 _ w1 HL.out).mono ?_
      rintro e w2 ⟨rfl, hd2⟩
      have HB2 := Aside0.mk (qAe HB.out hd2.below)
      clear hd2 HL
      generalize Lib.lastIndexByte p 47 = li at *
      go_wp2_with fail
      go_ret2
      rw [HP.out, HU.out]
      exact ⟨rfl, HB2.out⟩
def path_Parent.f (p : ByteArray) : Option (ByteArray × Bool) := some (qBj p)
end Go.Proofs.YtdijnmcfpbceaaaGreatDoor.X

namespace Go.Proofs.YtdijnmcfpbceaaaGreatDoor.P
open Go.Proofs.YtdijnmcfpbceaaaGreatDoor.X
open Go.RowKit Go.Proofs.YtdijnmcfpbceaaaGreatDoorW.PrintWords Go.Proofs.YtdijnmcfpbceaaaGreatDoorW.PrintLast Go.Proofs.YtdijnmcfpbceaaaGreatDoorW.PrintMore
attribute [local go_sem] qAr qAu
set_option linter.unusedVariables false
set_option linter.unusedSimpArgs false
mutual
def tree_Good.j0 : Nat → Bool → ByteArray → Int → ByteArray → Option (Bool)
 | 0, _, _, _, _ => none
 | k + 1, x12, x167000, x167001, x167002 => if x12 = true then (some false) else (if x167001 = 1 then (some (x167002.toList == ([] : List UInt8))) else (if x167001 = 2 then (tree_Good.j1 k x167001 (x167001 == 2) x167000 x167001 x167002) else (tree_Good.j1 k x167001 (x167001 == 3) x167000 x167001 x167002)))
def tree_Good.j1 : Nat → Int → Bool → ByteArray → Int → ByteArray → Option (Bool)
 | 0, _, _, _, _, _ => none
 | k + 1, x14, x20, x167000, x167001, x167002 => if x20 = true then (some true) else (if x14 = 4 then (if x167002.toList = ([] : List UInt8) then (some false) else ((strings_IndexByte.f x167002 0).bind fun t168 => (some (decide (t168 < 0))))) else (some false))
end
def tree_Good.f (k : Nat) (a0_0 : ByteArray) (a0_1 : Int) (a0_2 : ByteArray) : Option (Bool) := (path_May.f a0_0).bind fun t167 => (if t167 = true then (tree_Good.j0 k (decide ((a0_2.size : Int) > 400)) a0_0 a0_1 a0_2) else (tree_Good.j0 k true a0_0 a0_1 a0_2))
set_option maxHeartbeats 8000000 in
set_option maxRecDepth 100000 in
theorem tree_Good.calls (k : Nat) (a0_0 : ByteArray) (a0_1 : Int) (a0_2 : ByteArray) (r : Bool) (w : World) (hT : Aside0 (Tabs w)) (h : tree_Good.f k a0_0 a0_1 a0_2 = some r) :
  Calls Tryz.prog 56 #[.agg #[.string a0_0, .int .i64 a0_1, .string a0_2]] w fun e w' => e = .returned (.bool r) ∧ Below w.heap.size w w' := by
 have hu47 := Tryz.underlying47
 have HB := Aside0.mk (Below.refl w.heap.size w)
 have H : ((path_May.f a0_0).bind fun t167 => (if t167 = true then (tree_Good.j0 k (decide ((a0_2.size : Int) > 400)) a0_0 a0_1 a0_2) else (tree_Good.j0 k true a0_0 a0_1 a0_2))) = some r := h
 clear h
 have HC2 := Aside0.mk H
 clear H
 go_enter Tryz.func56, Tryz.ntmps56
 go_upto_region 1 with (first | ((with_reducible refine qBr (N := 1) rfl ?_); (try (refine qBk (by rfl) ?_; dsimp only)); refine qBf ?hg (N := 1) ?hd (cs := #[.string a0_0, .int .i64 a0_1, .string a0_2]) (t := 47) ?hr ?_; (case hd => rfl); (case hg => rfl); (case hr => first | (go_simp; done) | (go_simp; rfl)); intro gb166 hg w3 hbox hb; have n0_ := Aside0.mk (qAe (by repeat (first | (with_reducible first | exact HB.out | apply qAb | apply qAa | apply qAc) | exact HB.out)) hb); have n1_ := Aside0.mk (hbox); have n2_ := Aside0.mk ((by rw [hg]; exact (qAo (by repeat (first | (with_reducible first | exact HB.out | apply qAb | apply qAa | apply qAc) | exact HB.out))) : w.heap.size ≤ gb166)); have n3_ := Aside0.mk ((by rw [hg]; exact (qAo (by repeat (first | (with_reducible first | exact HB.out | apply qAb | apply qAa | apply qAc) | exact HB.out))) : w.heap.size ≤ gb166)); clear HB; have HB := n0_; have BK166 := n1_; have GW166 := n2_; have GE166 := n3_; clear n0_ n1_ n2_ n3_; clear hb hbox hg))
 (try simp only [Act.put, List.setIfInBounds_toArray, List.set_cons_zero, List.set_cons_succ])
 go_cut [12] (fun v12 wc => ∃ (kq : Nat) (x12_1 : Bool), v12 = .bool x12_1 ∧ Aside0 (tree_Good.j0 kq x12_1 a0_0 a0_1 a0_2 = some r) ∧ Aside0 (kq ≤ k) ∧ Aside0 (wc.heap[gb166]? = some (.cells #[.string a0_0, .int .i64 a0_1, .string a0_2] 47 (0, 0))) ∧ Aside0 (Below w.heap.size w wc))
 case first =>
  have H := HC2.out
  clear HC2
  replace H := Option.bind_eq_some_iff.mp H
  obtain ⟨t167, A40, H⟩ := H
  replace H : (if t167 = true then (tree_Good.j0 k (decide ((a0_2.size : Int) > 400)) a0_0 a0_1 a0_2) else (tree_Good.j0 k true a0_0 a0_1 a0_2)) = some r := H
  have A4 := Aside0.mk A40
  clear A40
  by_cases c5 : t167 = true
  ·subst c5
   have H1 : (tree_Good.j0 k (decide ((a0_2.size : Int) > 400)) a0_0 a0_1 a0_2) = some r := by rw [if_pos rfl] at H; exact H
   clear H
   have H := H1
   clear H1
   have H' := Aside0.mk H
   clear H
   have hcz6_0 : w3.cell? ⟨gb166, 0, none⟩ = some (.string a0_0) := (qAd BK166.out 0).trans rfl
   have hcz6_1 : w3.cell? ⟨gb166, 1, none⟩ = some (.int .i64 a0_1) := (qAd BK166.out 1).trans rfl
   have hcz6_2 : w3.cell? ⟨gb166, 2, none⟩ = some (.string a0_2) := (qAd BK166.out 2).trans rfl
   have hfz6_0 := qAf BK166.out 0
   have hfz6_1 := qAf BK166.out 1
   have hfz6_2 := qAf BK166.out 2
   go_wp2_with (first | ((with_reducible refine qAs (f := 76) rfl ?_); refine goesL_ (some 5) rfl rfl Tryz.func76 (by kernel_rfl) rfl #[.string a0_0] rfl (by (try simp only [List.map_toArray, List.map_cons, List.map_nil]); first | done | rfl | (simp only [List.length_drop, List.length_take]; rfl)) ?_; (with_reducible refine (path_May.calls a0_0 true _ ?side1 A4.out).mono ?_); (case side1 => exact ⟨Tabs.below hT.out (by repeat (first | (with_reducible first | exact HB.out | apply qAb | apply qAa | apply qAc | refine below_set ?_ GE166.out) | exact HB.out))⟩); rintro e w7 ⟨rfl, hb⟩; refine ⟨_, rfl, ?_⟩; have n0_ := Aside0.mk (qAg (g := gb166) (o := .cells #[.string a0_0, .int .i64 a0_1, .string a0_2] 47 (0, 0)) (by (with_reducible repeat (first | refine blk_drewN ?_ _ | refine blk_drew ?_ | refine qAn ?_ _)); exact BK166.out) hb); have n1_ := Aside0.mk (qAe (by repeat (first | (with_reducible first | exact HB.out | apply qAb | apply qAa | apply qAc | refine below_set ?_ GE166.out) | exact HB.out)) hb); clear BK166; clear HB; have BK166 := n0_; have HB := n1_; clear n0_ n1_; (try clear hb); (try clear hb2); (try clear hk); (try clear hi); have hcz8_0 : w7.cell? ⟨gb166, 0, none⟩ = some (.string a0_0) := (qAd BK166.out 0).trans rfl; have hcz8_1 : w7.cell? ⟨gb166, 1, none⟩ = some (.int .i64 a0_1) := (qAd BK166.out 1).trans rfl; have hcz8_2 : w7.cell? ⟨gb166, 2, none⟩ = some (.string a0_2) := (qAd BK166.out 2).trans rfl; have hfz8_0 := qAf BK166.out 0; have hfz8_1 := qAf BK166.out 1; have hfz8_2 := qAf BK166.out 2))
   go_meet
   case rel => exact ⟨_, (decide ((a0_2.size : Int) > 400)), (by first | rfl | (simp; done) | (simp [*]; done) | exact congrArg Value.bool (nil_ne _) | exact congrArg Value.bool (nil_eq _) | exact congrArg Value.bool (nil_ne' _)), H', ⟨by first | omega | exact Nat.le_refl _⟩, ⟨by (with_reducible repeat (first | refine blk_drewN ?_ _ | refine blk_drew ?_ | refine qAn ?_ _)); exact BK166.out⟩, ⟨by repeat (first | (with_reducible first | exact HB.out | apply qAb | apply qAa | apply qAc | refine below_set ?_ GE166.out) | exact HB.out)⟩⟩
  ·replace c5 := Bool.eq_false_iff.mpr c5
   subst c5
   have H1 : (tree_Good.j0 k true a0_0 a0_1 a0_2) = some r := by rw [if_neg (show ¬ (false = true) by decide)] at H; exact H
   clear H
   have H := H1
   clear H1
   have H' := Aside0.mk H
   clear H
   have hcz9_0 : w3.cell? ⟨gb166, 0, none⟩ = some (.string a0_0) := (qAd BK166.out 0).trans rfl
   have hcz9_1 : w3.cell? ⟨gb166, 1, none⟩ = some (.int .i64 a0_1) := (qAd BK166.out 1).trans rfl
   have hcz9_2 : w3.cell? ⟨gb166, 2, none⟩ = some (.string a0_2) := (qAd BK166.out 2).trans rfl
   have hfz9_0 := qAf BK166.out 0
   have hfz9_1 := qAf BK166.out 1
   have hfz9_2 := qAf BK166.out 2
   go_wp2_with (first | ((with_reducible refine qAs (f := 76) rfl ?_); refine goesL_ (some 5) rfl rfl Tryz.func76 (by kernel_rfl) rfl #[.string a0_0] rfl (by (try simp only [List.map_toArray, List.map_cons, List.map_nil]); first | done | rfl | (simp only [List.length_drop, List.length_take]; rfl)) ?_; (with_reducible refine (path_May.calls a0_0 false _ ?side1 A4.out).mono ?_); (case side1 => exact ⟨Tabs.below hT.out (by repeat (first | (with_reducible first | exact HB.out | apply qAb | apply qAa | apply qAc | refine below_set ?_ GE166.out) | exact HB.out))⟩); rintro e w10 ⟨rfl, hb⟩; refine ⟨_, rfl, ?_⟩; have n0_ := Aside0.mk (qAg (g := gb166) (o := .cells #[.string a0_0, .int .i64 a0_1, .string a0_2] 47 (0, 0)) (by (with_reducible repeat (first | refine blk_drewN ?_ _ | refine blk_drew ?_ | refine qAn ?_ _)); exact BK166.out) hb); have n1_ := Aside0.mk (qAe (by repeat (first | (with_reducible first | exact HB.out | apply qAb | apply qAa | apply qAc | refine below_set ?_ GE166.out) | exact HB.out)) hb); clear BK166; clear HB; have BK166 := n0_; have HB := n1_; clear n0_ n1_; (try clear hb); (try clear hb2); (try clear hk); (try clear hi)))
   go_meet
   case rel => exact ⟨_, (true), (by first | rfl | (simp; done) | (simp [*]; done) | exact congrArg Value.bool (nil_ne _) | exact congrArg Value.bool (nil_eq _) | exact congrArg Value.bool (nil_ne' _)), H', ⟨by first | omega | exact Nat.le_refl _⟩, ⟨by (with_reducible repeat (first | refine blk_drewN ?_ _ | refine blk_drew ?_ | refine qAn ?_ _)); exact BK166.out⟩, ⟨by repeat (first | (with_reducible first | exact HB.out | apply qAb | apply qAa | apply qAc | refine below_set ?_ GE166.out) | exact HB.out)⟩⟩
 case rest =>
  clear HC2
  try clear p2
  try clear c5
  try clear c7
  try clear hcz6_0
  try clear hcz6_1
  try clear hcz6_2
  try clear hcz8_0
  try clear hcz8_1
  try clear hcz8_2
  try clear hcz9_0
  try clear hcz9_1
  try clear hcz9_2
  try clear hfz6_0
  try clear hfz6_1
  try clear hfz6_2
  try clear hfz8_0
  try clear hfz8_1
  try clear hfz8_2
  try clear hfz9_0
  try clear hfz9_1
  try clear hfz9_2
  obtain ⟨kq, x12_1, rfl, HA, HJ1, BK166, HB⟩ := hcut
  cases kq with
  | zero => exact absurd HA.out (by simp [tree_Good.j0])
  | succ kj1 =>
   have H := HA.out
   clear HA
   simp only [tree_Good.j0] at H
   by_cases c11 : x12_1 = true
   ·subst c11
    have H1 : (some false) = some r := by rw [if_pos rfl] at H; exact H
    clear H
    have H := H1
    clear H1
    obtain rfl := Option.some.inj H
    go_wp2
    go_ret
    exact ⟨by first | rfl | (simp [qAj, qAi] <;> rfl) | (simp [*, qAj, qAi] <;> rfl), by repeat (first | (with_reducible first | exact HB.out | apply qAb | apply qAa | apply qAc | refine below_set ?_ GE166.out) | exact HB.out)⟩
   ·replace c11 := Bool.eq_false_iff.mpr c11
    subst c11
    have H1 : (if a0_1 = 1 then (some (a0_2.toList == ([] : List UInt8))) else (if a0_1 = 2 then (tree_Good.j1 kj1 a0_1 (a0_1 == 2) a0_0 a0_1 a0_2) else (tree_Good.j1 kj1 a0_1 (a0_1 == 3) a0_0 a0_1 a0_2))) = some r := by rw [if_neg (show ¬ (false = true) by decide)] at H; exact H
    clear H
    have H := H1
    clear H1
    by_cases c12 : a0_1 = 1
    ·rw [if_pos c12] at H
     have c12b0 : (a0_1 == 1) = true := beq_iff_eq.mpr c12
     have c12b1 : (a0_1 != 1) = false := bne_eq_false_iff_eq.mpr c12
     clear c12
     obtain rfl := Option.some.inj H
     have hcz13_0 : wc.cell? ⟨gb166, 0, none⟩ = some (.string a0_0) := (qAd BK166.out 0).trans rfl
     have hcz13_1 : wc.cell? ⟨gb166, 1, none⟩ = some (.int .i64 a0_1) := (qAd BK166.out 1).trans rfl
     have hcz13_2 : wc.cell? ⟨gb166, 2, none⟩ = some (.string a0_2) := (qAd BK166.out 2).trans rfl
     have hfz13_0 := qAf BK166.out 0
     have hfz13_1 := qAf BK166.out 1
     have hfz13_2 := qAf BK166.out 2
     go_wp2
     go_ret
     exact ⟨by first | rfl | (simp [qAj, qAi] <;> rfl) | (simp [*, qAj, qAi] <;> rfl), by repeat (first | (with_reducible first | exact HB.out | apply qAb | apply qAa | apply qAc | refine below_set ?_ GE166.out) | exact HB.out)⟩
    ·rw [if_neg c12] at H
     have c12b0 : (a0_1 == 1) = false := beq_eq_false_iff_ne.mpr c12
     have c12b1 : (a0_1 != 1) = true := bne_iff_ne.mpr c12
     have HC14 := Aside0.mk H
     clear H
     have hcz15_0 : wc.cell? ⟨gb166, 0, none⟩ = some (.string a0_0) := (qAd BK166.out 0).trans rfl
     have hcz15_1 : wc.cell? ⟨gb166, 1, none⟩ = some (.int .i64 a0_1) := (qAd BK166.out 1).trans rfl
     have hcz15_2 : wc.cell? ⟨gb166, 2, none⟩ = some (.string a0_2) := (qAd BK166.out 2).trans rfl
     have hfz15_0 := qAf BK166.out 0
     have hfz15_1 := qAf BK166.out 1
     have hfz15_2 := qAf BK166.out 2
     go_upto_if 20 with (fail)
     go_cut [20] (fun v20 wc => ∃ (kq : Nat) (x20_13 : Bool), v20 = .bool x20_13 ∧ Aside0 (tree_Good.j1 kq a0_1 x20_13 a0_0 a0_1 a0_2 = some r) ∧ Aside0 (kq ≤ kj1) ∧ Aside0 (wc.heap[gb166]? = some (.cells #[.string a0_0, .int .i64 a0_1, .string a0_2] 47 (0, 0))) ∧ Aside0 (Below w.heap.size w wc))
     case first =>
      have H := HC14.out
      clear HC14
      by_cases c16 : a0_1 = 2
      ·rw [if_pos c16] at H
       have c16b0 : (a0_1 == 2) = true := beq_iff_eq.mpr c16
       have c16b1 : (a0_1 != 2) = false := bne_eq_false_iff_eq.mpr c16
       clear c16
       (first | rw [c16b0] | (simp only [i64_w, i32_w]; rw [c16b0]) | skip)
       have H' := Aside0.mk H
       clear H
       go_wp2
       go_meet
       case rel => exact ⟨_, ((a0_1 == 2)), (by first | rfl | (simp; done) | (simp [*]; done) | exact congrArg Value.bool (nil_ne _) | exact congrArg Value.bool (nil_eq _) | exact congrArg Value.bool (nil_ne' _)), H', ⟨by have := HJ1.out; first | omega | exact Nat.le_refl _⟩, ⟨by (with_reducible repeat (first | refine blk_drewN ?_ _ | refine blk_drew ?_ | refine qAn ?_ _)); exact BK166.out⟩, ⟨by repeat (first | (with_reducible first | exact HB.out | apply qAb | apply qAa | apply qAc | refine below_set ?_ GE166.out) | exact HB.out)⟩⟩
      ·rw [if_neg c16] at H
       have c16b0 : (a0_1 == 2) = false := beq_eq_false_iff_ne.mpr c16
       have c16b1 : (a0_1 != 2) = true := bne_iff_ne.mpr c16
       (first | rw [c16b0] | (simp only [i64_w, i32_w]; rw [c16b0]) | skip)
       have H' := Aside0.mk H
       clear H
       go_wp2
       go_meet
       case rel => exact ⟨_, ((a0_1 == 3)), (by first | rfl | (simp; done) | (simp [*]; done) | exact congrArg Value.bool (nil_ne _) | exact congrArg Value.bool (nil_eq _) | exact congrArg Value.bool (nil_ne' _)), H', ⟨by have := HJ1.out; first | omega | exact Nat.le_refl _⟩, ⟨by (with_reducible repeat (first | refine blk_drewN ?_ _ | refine blk_drew ?_ | refine qAn ?_ _)); exact BK166.out⟩, ⟨by repeat (first | (with_reducible first | exact HB.out | apply qAb | apply qAa | apply qAc | refine below_set ?_ GE166.out) | exact HB.out)⟩⟩
     case rest =>
      clear HC14
      try clear c1
      try clear p2
      try clear c5
      try clear c7
      try clear c11
      try clear c12
      try clear c12b0
      try clear c12b1
      try clear c16
      try clear c16b0
      try clear c16b1
      try clear hcz13_0
      try clear hcz13_1
      try clear hcz13_2
      try clear hcz15_0
      try clear hcz15_1
      try clear hcz15_2
      try clear hcz6_0
      try clear hcz6_1
      try clear hcz6_2
      try clear hcz8_0
      try clear hcz8_1
      try clear hcz8_2
      try clear hcz9_0
      try clear hcz9_1
      try clear hcz9_2
      try clear hfz13_0
      try clear hfz13_1
      try clear hfz13_2
      try clear hfz15_0
      try clear hfz15_1
      try clear hfz15_2
      try clear hfz6_0
      try clear hfz6_1
      try clear hfz6_2
      try clear hfz8_0
      try clear hfz8_1
      try clear hfz8_2
      try clear hfz9_0
      try clear hfz9_1
      try clear hfz9_2
      try clear p2
      obtain ⟨kq, x20_13, rfl, HA, HJ13, BK166, HB⟩ := hcut
      cases kq with
      | zero => exact absurd HA.out (by simp [tree_Good.j1])
      | succ kj13 =>
       have H := HA.out
       clear HA
       simp only [tree_Good.j1] at H
       by_cases c17 : x20_13 = true
       ·subst c17
        have H1 : (some true) = some r := by rw [if_pos rfl] at H; exact H
        clear H
        have H := H1
        clear H1
        obtain rfl := Option.some.inj H
        go_wp2
        go_ret
        exact ⟨by first | rfl | (simp [qAj, qAi] <;> rfl) | (simp [*, qAj, qAi] <;> rfl), by repeat (first | (with_reducible first | exact HB.out | apply qAb | apply qAa | apply qAc | refine below_set ?_ GE166.out) | exact HB.out)⟩
       ·replace c17 := Bool.eq_false_iff.mpr c17
        subst c17
        have H1 : (if a0_1 = 4 then (if a0_2.toList = ([] : List UInt8) then (some false) else ((strings_IndexByte.f a0_2 0).bind fun t168 => (some (decide (t168 < 0))))) else (some false)) = some r := by rw [if_neg (show ¬ (false = true) by decide)] at H; exact H
        clear H
        have H := H1
        clear H1
        by_cases c18 : a0_1 = 4
        ·rw [if_pos c18] at H
         have c18b0 : (a0_1 == 4) = true := beq_iff_eq.mpr c18
         have c18b1 : (a0_1 != 4) = false := bne_eq_false_iff_eq.mpr c18
         clear c18
         by_cases c19 : a0_2.toList = ([] : List UInt8)
         ·rw [if_pos c19] at H
          have c19b0 : (a0_2.toList == ([] : List UInt8)) = true := beq_iff_eq.mpr c19
          have c19b1 : (a0_2.toList != ([] : List UInt8)) = false := bne_eq_false_iff_eq.mpr c19
          clear c19
          obtain rfl := Option.some.inj H
          have hcz20_0 : wc.cell? ⟨gb166, 0, none⟩ = some (.string a0_0) := (qAd BK166.out 0).trans rfl
          have hcz20_1 : wc.cell? ⟨gb166, 1, none⟩ = some (.int .i64 a0_1) := (qAd BK166.out 1).trans rfl
          have hcz20_2 : wc.cell? ⟨gb166, 2, none⟩ = some (.string a0_2) := (qAd BK166.out 2).trans rfl
          have hfz20_0 := qAf BK166.out 0
          have hfz20_1 := qAf BK166.out 1
          have hfz20_2 := qAf BK166.out 2
          go_wp2
          go_ret
          exact ⟨by first | rfl | (simp [qAj, qAi] <;> rfl) | (simp [*, qAj, qAi] <;> rfl), by repeat (first | (with_reducible first | exact HB.out | apply qAb | apply qAa | apply qAc | refine below_set ?_ GE166.out) | exact HB.out)⟩
         ·rw [if_neg c19] at H
          have c19b0 : (a0_2.toList == ([] : List UInt8)) = false := beq_eq_false_iff_ne.mpr c19
          have c19b1 : (a0_2.toList != ([] : List UInt8)) = true := bne_iff_ne.mpr c19
          replace H := Option.bind_eq_some_iff.mp H
          obtain ⟨t168, A210, H⟩ := H
          replace H : (some (decide (t168 < 0))) = some r := H
          have A21 := Aside0.mk A210
          clear A210
          obtain rfl := Option.some.inj H
          have hcz22_0 : wc.cell? ⟨gb166, 0, none⟩ = some (.string a0_0) := (qAd BK166.out 0).trans rfl
          have hcz22_1 : wc.cell? ⟨gb166, 1, none⟩ = some (.int .i64 a0_1) := (qAd BK166.out 1).trans rfl
          have hcz22_2 : wc.cell? ⟨gb166, 2, none⟩ = some (.string a0_2) := (qAd BK166.out 2).trans rfl
          have hfz22_0 := qAf BK166.out 0
          have hfz22_1 := qAf BK166.out 1
          have hfz22_2 := qAf BK166.out 2
          go_wp2_with (first | (go_at_call 77; (with_reducible refine (strings_IndexByte.calls a0_2 0 t168 _ A21.out).mono ?_); rintro e w' ⟨rfl, ⟨nd, rfl⟩⟩))
          go_ret
          exact ⟨by first | rfl | (simp [qAj, qAi] <;> rfl) | (simp [*, qAj, qAi] <;> rfl), by repeat (first | (with_reducible first | exact HB.out | apply qAb | apply qAa | apply qAc | refine below_set ?_ GE166.out) | exact HB.out)⟩
        ·rw [if_neg c18] at H
         have c18b0 : (a0_1 == 4) = false := beq_eq_false_iff_ne.mpr c18
         have c18b1 : (a0_1 != 4) = true := bne_iff_ne.mpr c18
         obtain rfl := Option.some.inj H
         go_wp2
         go_ret
         exact ⟨by first | rfl | (simp [qAj, qAi] <;> rfl) | (simp [*, qAj, qAi] <;> rfl), by repeat (first | (with_reducible first | exact HB.out | apply qAb | apply qAa | apply qAc | refine below_set ?_ GE166.out) | exact HB.out)⟩
end Go.Proofs.YtdijnmcfpbceaaaGreatDoor.P

namespace Go.Proofs.YtdijnmcfpbceaaaGreatDoor.X
open Go.Maps Go.WideMaps Go.RowKit Go.Proofs.YtdijnmcfpbceaaaGreatDoorW.PrintWords Go.Proofs.YtdijnmcfpbceaaaGreatDoorW.PrintLast Go.Proofs.YtdijnmcfpbceaaaGreatDoorW.PrintMore Go.Proofs.YtdijnmcfpbceaaaGreatDoor.P
set_option linter.unusedVariables false
set_option linter.unusedSimpArgs false
theorem qJ5 (n : S47) : tree_Good.f 3 n.f0 n.f1 n.f2 = some (goodN n) := by
  unfold tree_Good.f path_May.f goodN
  simp only [Option.bind_some, tree_Good.j0, tree_Good.j1, strings_IndexByte.f]
  have i2 := indexByte_none n.f2.data.toList 0
  rw [show ((0 : Int).toNat.toUInt8) = (0 : UInt8) from rfl]
  have hb : (n.f2.toList == []) = decide (n.f2.size = 0) := by
    rw [Bool.eq_iff_iff, beq_iff_eq, decide_eq_true_eq]
    exact qAy _
  rw [hb]
  simp only [qAy, i2]
  cases hp : pathB n.f0.data.toList with
  | false => simp
  | true =>
    by_cases h4 : n.f2.size ≤ 400
    · have h4' : ¬ ((n.f2.size : Int) > 400) := by omega
      rw [decide_eq_false h4', decide_eq_true h4]
      simp only [if_pos trivial, Bool.true_and, if_neg (show ¬ (false = true) from by simp)]
      by_cases k1 : n.f1 = 1
      · simp [k1]
      · by_cases k2 : n.f1 = 2
        · simp [k2]
        · by_cases k3 : n.f1 = 3
          · simp [k3]
          · by_cases k4 : n.f1 = 4
            · by_cases k5 : n.f2.size = 0
              · simp [k4, k5]
              · simp [k4, k5]
            · simp [k1, k2, k3, k4]
    · have h4' : ((n.f2.size : Int) > 400) := by omega
      simp [h4, h4']
theorem keyS : Maps.Keyed Tryz.prog 9 := Maps.string_keyed Tryz.underlying9
set_option maxRecDepth 100000 in
theorem zeroB (w : World) : (zeroValue 4).run Tryz.prog w = .ok (.bool false) w := by kernel_rfl
set_option maxRecDepth 100000 in
theorem qC4 {v : Value} {z : DataW Unit × List MemPlace} (h : plainElem Tryz.prog 4 v = some z) : ∃ x, v = .bool x ∧ z = (.lit (.bool x), []) := by
  have hu := Tryz.underlying4
  unfold plainElem at h
  generalize Tryz.prog.underlying 4 = u at h hu
  subst hu
  cases v <;> simp at h
  exact ⟨_, rfl, h.symm⟩
theorem qIj {w : World} {Bm m : Nat} {D : DataW Unit} (h : w.ownsMap Tryz.prog 9 (plainElem Tryz.prog 4) Bm m D) (p : ByteArray) (hp : p.size ≤ maxLen) :
    ∃ b, (Instr.lookup 88 (.map (some Bm)) (.string p) false).run Tryz.prog w = .ok (.bool b) w ∧ D.atKey (.string p.data.toList) (.lit (.bool false)) = .lit (.bool b) := by
  obtain ⟨v, ps, hrun, hv⟩ := h.lookup keyS Tryz.underlying88 (zeroB w) (plainElem_bool Tryz.underlying4 false) (key := .string p) (kl := .string p.data.toList) (keyOf_string_mk Tryz.underlying9 hp)
  obtain ⟨x, rfl, hx⟩ := qC4 hv
  injection hx with h1 h2
  exact ⟨x, hrun, h1⟩
theorem qBq {w w1 : World} {Bm m : Nat} {D : DataW Unit} (h : w.ownsMap Tryz.prog 9 (plainElem Tryz.prog 4) Bm m D) (hb : Below w.heap.size w w1) : w1.ownsMap Tryz.prog 9 (plainElem Tryz.prog 4) Bm m D := by
  have hl := h.lt
  obtain ⟨es, clock, hg, F, hs, hD⟩ := h
  exact ⟨es, clock, (hb.block Bm hl).trans hg, F, hs, hD⟩
theorem qJd {w : World} {Bm m : Nat} {D : DataW Unit} {t : List S47} (h : w.ownsMap Tryz.prog 9 (plainElem Tryz.prog 4) Bm m D) (hD : ∀ p : ByteArray, D.atKey (.string p.data.toList) (.lit (.bool false)) = .lit (.bool (dirAt t p))) (p : ByteArray) (hp : p.size ≤ maxLen) :
    (Instr.lookup 88 (.map (some Bm)) (.string p) false).run Tryz.prog w = .ok (.bool (dirAt t p)) w := by
  obtain ⟨b, hrun, hb⟩ := qIj h p hp
  have hb : dirAt t p = b := Lit.bool.inj (DataW.lit.inj ((hD p).symm.trans hb))
  rw [hb]
  exact hrun
theorem qCw (l : List S47) (i : Nat) (h : i < l.length) : rd_T47 l (i : Int) = l[i] := by
  simp [rd_T47, List.getD_eq_getElem?_getD, h]
theorem qB6 {p : ByteArray} (h : pathB p.data.toList = true) : p.size ≤ 200 := by
  unfold pathB at h
  rw [Bool.or_eq_true, Bool.and_eq_true, Bool.and_eq_true, decide_eq_true_eq, decide_eq_true_eq, qAh] at h
  rcases h with h | h
  · have : p.size = 0 := by rw [← qAh, h]; rfl
    omega
  · exact h.1.1
theorem qIy {p : ByteArray} (h : p.size ≤ 200) : (upS p).size ≤ 200 := by
  rw [qH2, ByteArray.size_extract]
  omega
set_option maxHeartbeats 4000000 in
theorem qFc (n : S47) (A0 : Option Addr) (c0 : Nat) (t : List S47) (Bm m : Nat) (D : DataW Unit) (w : World) (hT : Aside0 (Tabs w)) (hC : Kd.C k47 w A0 t.length t) (hc : t.length ≤ c0) (hn : t.length ≤ 100000)
    (hM : w.ownsMap Tryz.prog 9 (plainElem Tryz.prog 4) Bm m D) (hD : ∀ p : ByteArray, D.atKey (.string p.data.toList) (.lit (.bool false)) = .lit (.bool (dirAt t p))) :
    Calls Tryz.prog 57 #[.agg #[.string n.f0, .int .i64 n.f1, .string n.f2], .slice A0 t.length c0, .map (some Bm)] w fun e w' => e = .returned (.bool (qBb t n)) ∧ Below w.heap.size w w' := by
  have X := Aside0.mk hC
  have HM := Aside0.mk hM
  have HD := Aside0.mk hD
  clear hC hM hD
  go_enter Tryz.func57, Tryz.ntmps57
  by_cases h0 : t.length = 0
  · have ht : t = [] := List.eq_nil_of_length_eq_zero h0
    have h00 : ((t.length : Int) == 0) = true := by rw [h0]; rfl
    obtain ⟨b0, hb0⟩ : ∃ b, (n.f0.toList == []) = b := ⟨_, rfl⟩
    have HF := Aside0.mk (show qBb t n = b0 from by
      rw [ht]
      unfold qBb
      show decide (n.f0.size = 0) = b0
      rw [← hb0, Bool.eq_iff_iff, beq_iff_eq, decide_eq_true_eq]
      exact (qAy _).symm)
    clear ht
    go_wp2_with fail
    go_ret
    rw [HF.out]
    exact ⟨rfl, qAb (Below.refl _ _) _⟩
  · have h00 : ((t.length : Int) == 0) = false := beq_eq_false_iff_ne.2 (by omega)
    go_wp2_with fail
    refine (qFu n.f0 _ ⟨Tabs.below hT.out (qAb (Below.refl _ _) _)⟩).mono ?_
    rintro e w1 ⟨rfl, hB⟩
    have HB := Aside0.mk (qAe (qAb (Below.refl w.heap.size w) (.cells #[.string n.f0, .int .i64 n.f1, .string n.f2] 47)) hB)
    have HZ := Aside0.mk (qAg (qA7 w (.cells #[.string n.f0, .int .i64 n.f1, .string n.f2] 47)) hB)
    clear hB
    have hz0 : w1.cell? ⟨w.heap.size, 0, none⟩ = some (.string n.f0) := (qAd HZ.out 0).trans rfl
    obtain ⟨ok, hok⟩ : ∃ b, (qBj n.f0).2 = b := ⟨_, rfl⟩
    rw [hok]
    cases ok with
    | false =>
      have HF := Aside0.mk (show qBb t n = false from by
        have hx : ¬ (n.f0.size ≠ 0 ∧ pathB n.f0.data.toList = true) := fun hx => by
          unfold qBj at hok
          rw [if_neg (by rw [not_or]; exact ⟨hx.1, by rw [hx.2]; simp⟩)] at hok
          cases hok
        unfold qBb
        cases hl : t.getLast? with
        | none => exact absurd (List.getLast?_eq_none_iff.1 hl) (fun e => h0 (by rw [e]; rfl))
        | some l =>
          show (decide (n.f0.size ≠ 0) && pathB n.f0.data.toList && ltB l.f0 n.f0 && dirAt t (upS n.f0)) = false
          cases h1 : pathB n.f0.data.toList with
          | false => simp
          | true =>
            have : n.f0.size = 0 := Classical.byContradiction fun e => hx ⟨e, h1⟩
            simp [this])
      go_wp2_with fail
      go_quiet (fail)
      go_wp2_with fail
      go_ret
      rw [HF.out]
      exact ⟨rfl, qAa HB.out _⟩
    | true =>
      have HU := Aside0.mk (show (qBj n.f0).1 = upS n.f0 ∧ n.f0.size ≠ 0 ∧ pathB n.f0.data.toList = true from by
        unfold qBj at hok ⊢
        split at hok
        · cases hok
        · rename_i h
          rw [if_neg h]
          rw [not_or] at h
          exact ⟨rfl, h.1, by simpa using h.2⟩)
      rw [HU.out.1]
      clear hok
      obtain ⟨m1, hm1⟩ : ∃ k, t.length = k + 1 := ⟨t.length - 1, by omega⟩
      obtain ⟨ad, rfl, z0, z1, z2⟩ := at_T47 (Kd.C_below X.out HB.out) (m1 : Int) (by omega) (by omega)
      have hsub : (t.length : Int) - 1 = (m1 : Int) := by omega
      have hi0 : 0 ≤ (m1 : Int) := by omega
      have hic : decide ((m1 : Int) < (t.length : Int)) = true := decide_eq_true (by omega)
      simp only [Int.toNat_natCast] at z0 z1 z2
      have hlast : t.getLast? = some (rd_T47 t (m1 : Int)) := by
        rw [qCw t m1 (by omega), List.getLast?_eq_getElem?, show t.length - 1 = m1 by omega, List.getElem?_eq_getElem (by omega)]
      obtain ⟨bd, hbd⟩ : ∃ b, dirAt t (upS n.f0) = b := ⟨_, rfl⟩
      have HF := Aside0.mk (show qBb t n = (ltB (rd_T47 t (m1 : Int)).f0 n.f0 && bd) from by
        unfold qBb
        rw [hlast, ← hbd]
        show (decide (n.f0.size ≠ 0) && pathB n.f0.data.toList && ltB _ n.f0 && dirAt t (upS n.f0)) = _
        rw [decide_eq_true HU.out.2.1, HU.out.2.2, Bool.true_and, Bool.true_and])
      have HDb := Aside0.mk hbd
      clear hlast z1 z2 hbd hm1
      generalize rd_T47 t (m1 : Int) = l at *
      obtain ⟨bl, hbl⟩ : ∃ b, Op.bytesLess l.f0.toList n.f0.toList = b := ⟨_, rfl⟩
      have HF2 := Aside0.mk (show qBb t n = (bl && bd) from by rw [HF.out, ← hbl]; rfl)
      have hrq : ∀ k, (Instr.lookup 88 (.map (some Bm)) (.string (upS n.f0)) false).run Tryz.prog (w1.drewN k) = .ok (.bool bd) (w1.drewN k) := fun k => by
        rw [← HDb.out]
        exact qJd (qBq HM.out (qAa HB.out k)) HD.out _ (Nat.le_trans (qIy (qB6 HU.out.2.2)) (by decide))
      cases bl with
      | false =>
        go_wp2_with fail
        go_quiet (fail)
        go_wp2_with fail
        go_ret
        rw [HF2.out]
        exact ⟨rfl, qAa HB.out _⟩
      | true =>
        go_wp2_with fail
        go_quiet (fail)
        go_wp2_with fail
        go_ret
        rw [HF2.out]
        exact ⟨rfl, qAa HB.out _⟩
end Go.Proofs.YtdijnmcfpbceaaaGreatDoor.X

namespace Go.Proofs.YtdijnmcfpbceaaaGreatDoor.X
open Go.Maps Go.WideMaps Go.RowKit Go.Proofs.YtdijnmcfpbceaaaGreatDoorW.PrintWords Go.Proofs.YtdijnmcfpbceaaaGreatDoorW.PrintLast Go.Proofs.YtdijnmcfpbceaaaGreatDoorW.PrintMore Go.Proofs.YtdijnmcfpbceaaaGreatDoor.P
set_option linter.unusedVariables false
set_option linter.unusedSimpArgs false
theorem qI2 {l : List S47} {x : S47} (h : risN l) (hf : qBb l x = true) : risN (l ++ [x]) ∧ ∀ y ∈ l, ltB y.f0 x.f0 = true := by
  have hall : ∀ y ∈ l, ltB y.f0 x.f0 = true := by
    unfold qBb at hf
    cases hl : l.getLast? with
    | none =>
      rw [List.getLast?_eq_none_iff.1 hl]
      intro y hy
      cases hy
    | some z =>
      rw [hl] at hf
      have hz : ltB z.f0 x.f0 = true := by
        have hf : (decide (x.f0.size ≠ 0) && pathB x.f0.data.toList && ltB z.f0 x.f0 && dirAt l (upS x.f0)) = true := hf
        rw [Bool.and_eq_true, Bool.and_eq_true] at hf
        exact hf.1.2
      obtain ⟨ys, rfl⟩ := List.getLast?_eq_some_iff.1 hl
      intro y hy
      rcases List.mem_append.1 hy with h1 | h1
      · exact qIh ((List.pairwise_append.1 h).2.2 y h1 z (by simp)) hz
      · rw [List.mem_singleton] at h1
        rw [h1]
        exact hz
  refine ⟨?_, hall⟩
  unfold risN
  rw [List.pairwise_append]
  refine ⟨h, List.pairwise_singleton _ _, fun a ha b hb => ?_⟩
  rw [List.mem_singleton] at hb
  rw [hb]
  exact hall a ha
theorem qHt (l : List S47) (x : S47) (p : ByteArray) : dirAt (l ++ [x]) p = (dirAt l p || (decide (x.f0 = p) && decide (x.f1 = 1))) := by
  unfold dirAt
  rw [List.any_append]
  simp
theorem qHu {l : List S47} {p : ByteArray} (h : ∀ y ∈ l, ltB y.f0 p = true) : dirAt l p = false := by
  unfold dirAt
  rw [List.any_eq_false]
  intro y hy
  have h1 := h y hy
  have : y.f0 ≠ p := fun e => by
    rw [e, qHn] at h1
    cases h1
  simp [this]
set_option maxHeartbeats 8000000 in
set_option maxRecDepth 100000 in
theorem qIv (A0 : Option Addr) (c0 : Nat) (t : List S47) (w : World) (hT : Aside0 (Tabs w)) (hC : Kd.C k47 w A0 t.length t) (hc : t.length ≤ c0) (hn : t.length ≤ 100000) :
    Calls Tryz.prog 43 #[.slice A0 t.length c0] w fun e w' => ∃ r : Int, e = .returned (.int .i64 r) ∧ decide (r < 0) = treeB t ∧ Below w.heap.size w w' := by
  have X := Aside0.mk hC
  clear hC
  go_enter Tryz.func43, Tryz.ntmps43
  by_cases h0 : t.length = 0
  · have ht : t = [] := List.eq_nil_of_length_eq_zero h0
    have h00 : ((t.length : Int) == 0) = true := by rw [h0]; rfl
    have HF := Aside0.mk (show treeB t = false from by rw [ht]; rfl)
    clear ht
    go_wp2_with fail
    go_ret
    exact ⟨0, rfl, by rw [HF.out]; rfl, Below.refl _ _⟩
  · have h00 : ((t.length : Int) == 0) = false := beq_eq_false_iff_ne.2 (by omega)
    have hmm := @run_makeMap Tryz.prog
    have HM0 := Aside0.mk (show (w.alloc (.map #[] 0)).ownsMap Tryz.prog 9 (plainElem Tryz.prog 4) w.heap.size 0 (.map [] : DataW Unit) from World.ownsMap_made w Tryz.prog 9 _)
    have HB0 := Aside0.mk (show Below w.heap.size w (w.alloc (.map #[] 0)) from qAb (Below.refl _ _) _)
    go_wp2_with fail
    clear hmm
    generalize w.alloc (.map #[] 0) = w0 at *
    go_loopw [12] (fun v12 wr => ∃ (i : Nat) (D : DataW Unit), v12 = .int .i64 i ∧ i ≤ t.length ∧ Aside0 (wr.ownsMap Tryz.prog 9 (plainElem Tryz.prog 4) w.heap.size i D) ∧ Aside0 (∀ p : ByteArray, D.atKey (.string p.data.toList) (.lit (.bool false)) = .lit (.bool (dirAt (t.take i) p))) ∧ Aside0 (risN (t.take i)) ∧ Aside0 (treeB t = treeR (t.take i) (t.drop i)) ∧ Aside0 (Below w.heap.size w wr)) (fun a _ => t.length - (intOf a).toNat)
    case atStart => exact ⟨0, _, rfl, by omega, HM0, ⟨fun p => rfl⟩, ⟨List.Pairwise.nil⟩, ⟨by unfold treeB; cases t with | nil => exact absurd rfl h0 | cons a l => simp⟩, HB0⟩
    case round =>
      clear HM0 HB0
      obtain ⟨i, D, rfl, hi, HM, HD, HR, HT, HB⟩ := hrel
      by_cases hil : i < t.length
      · have hic : decide ((i : Int) < (t.length : Int)) = true := decide_eq_true (by omega)
        have hi0 : 0 ≤ (i : Int) := by omega
        obtain ⟨ad, rfl, z0, z1, z2⟩ := at_T47 (Kd.C_below X.out HB.out) (i : Int) (by omega) (by omega)
        simp only [Int.toNat_natCast] at z0 z1 z2
        have HX := Aside0.mk (qCw t i hil)
        generalize rd_T47 t (i : Int) = x at *
        have HLT := Aside0.mk HM.out.lt
        go_wp2_with fail
        have HN := Aside0.mk (qA7 wr (.cells #[.string x.f0, .int .i64 x.f1, .string x.f2] 47))
        have HW6 := Aside0.mk (qAb (Below.refl wr.heap.size wr) (.cells #[.string x.f0, .int .i64 x.f1, .string x.f2] 47))
        have HB6 := Aside0.mk (qAe HB.out HW6.out)
        have HM6 := Aside0.mk (qBq HM.out HW6.out)
        have HTR := Aside0.mk (HT.out.trans (qHa t i hil))
        clear HB HM HW6 HT
        generalize wr.alloc (.cells #[.string x.f0, .int .i64 x.f1, .string x.f2] 47) = W6 at *
        generalize wr.heap.size = gn at *
        rw [← HX.out] at HTR
        obtain ⟨b400, h400⟩ : ∃ b, decide ((400 : Int) ≤ (i : Int)) = b := ⟨_, rfl⟩
        obtain ⟨bg, hbg⟩ : ∃ b, goodN x = b := ⟨_, rfl⟩
        obtain ⟨bf, hbf⟩ : ∃ b, qBb (t.take i) x = b := ⟨_, rfl⟩
        have HGood := Aside0.mk (show ∀ W, Below W6.heap.size W6 W → Calls Tryz.prog 56 #[.agg #[.string x.f0, .int .i64 x.f1, .string x.f2]] W (fun e w' => e = .returned (.bool bg) ∧ Below W.heap.size W w') from fun W hW => tree_Good.calls 3 x.f0 x.f1 x.f2 bg W ⟨Tabs.below hT.out (qAe HB6.out hW)⟩ (by rw [qJ5, hbg]))
        have hlen : (t.take i).length = i := by rw [List.length_take]; omega
        have HFol := Aside0.mk (show ∀ W, Below W6.heap.size W6 W → Calls Tryz.prog 57 #[.agg #[.string x.f0, .int .i64 x.f1, .string x.f2], .slice (some ad) i c0, .map (some w.heap.size)] W (fun e w' => e = .returned (.bool bf) ∧ Below W.heap.size W w') from fun W hW => by
          have hcall := qFc x (some ad) c0 (t.take i) w.heap.size i D W ⟨Tabs.below hT.out (qAe HB6.out hW)⟩ (Kd.C_take (Kd.C_below X.out (qAe HB6.out hW)) (by omega)) (by omega) (by omega) (qBq HM6.out hW) HD.out
          rw [hlen, hbf] at hcall
          exact hcall)
        rw [hbg, hbf] at HTR
        have HFx := Aside0.mk hbf
        have HGx := Aside0.mk hbg
        clear hbg hbf hlen
        have hicn : i ≤ c0 := by omega
        have hicc : decide ((i : Int) ≤ (c0 : Int)) = true := decide_eq_true (by omega)
        cases b400 with
        | true =>
          have HF := Aside0.mk (show treeB t = false from by
            have : ¬ i < 400 := by have := of_decide_eq_true h400; omega
            rw [HTR.out, decide_eq_false this]
            rfl)
          go_quiet (fail)
          go_wp2_with fail
          go_ret
          exact ⟨i, rfl, by rw [HF.out]; exact decide_eq_false (by omega), qAa HB6.out _⟩
        | false =>
          cases bg with
          | false =>
            have HF := Aside0.mk (show treeB t = false from by
              rw [HTR.out, Bool.and_false, Bool.false_and, Bool.false_and])
            refine start_ (n := 16) (S := fun w' => Below W6.heap.size W6 w') (ds := []) (bmG 16 0) (by kernel_rfl) rfl (by kernel_rfl) (qAc (Below.refl W6.heap.size W6)) (fun hS => ?_)
            generalize W6.drew = wd at hS ⊢
            refine pure_ (i := 0) (N := some 17) (v := ?_) (a' := ?_) (bmG 16 1) rfl rfl (by kernel_rfl) (fun _ _ _ h => h) (Or.inl ⟨by rfl, ?_⟩) ?_ ?_
            rotate_left
            · intro w'
              go_simp
              (try simp only [h400])
              with_reducible rfl
            rotate_left
            · simp only [Act.put, List.setIfInBounds_toArray, List.set_cons_zero, List.set_cons_succ, i64_w, i32_w]
              rfl
            refine pure_ (i := 1) (N := some 18) (v := .bool false) (a' := ?_) (bmG 16 3) rfl rfl (by kernel_rfl) (fun _ _ _ h => h) (Or.inl ⟨by rfl, ?_⟩) ?_ ?_
            · intro w'
              go_simp
              (try simp only [h400])
              (try rfl)
            rotate_left
            · simp only [Act.put, List.setIfInBounds_toArray, List.set_cons_zero, List.set_cons_succ, i64_w, i32_w]
              rfl
            refine pure_ (i := 2) (N := some 19) (v := ?_) (a' := ?_) (bmG 16 7) rfl rfl (by kernel_rfl) (fun _ _ _ h => h) (Or.inl ⟨by rfl, ?_⟩) ?_ ?_
            rotate_left
            · intro w'
              go_simp
              (try simp only [h400])
              with_reducible rfl
            rotate_left
            · simp only [Act.put, List.setIfInBounds_toArray, List.set_cons_zero, List.set_cons_succ, i64_w, i32_w]
              rfl
            refine take_ (i := 3) (N := some 20) (v := ?_) (a' := ?_) (bmG 16 15) rfl rfl (by kernel_rfl) (fun _ _ _ h => h) (Or.inl ⟨by rfl, ?_⟩) hS ?_ ?_
            rotate_left
            · intro w' hS
              have s0 := (show w'.cell? ⟨gn, 0, none⟩ = some (.string x.f0) from (qAd (qAg HN.out hS) 0).trans rfl)
              have s1 := (show w'.cell? ⟨gn, 1, none⟩ = some (.int .i64 x.f1) from (qAd (qAg HN.out hS) 1).trans rfl)
              have s2 := (show w'.cell? ⟨gn, 2, none⟩ = some (.string x.f2) from (qAd (qAg HN.out hS) 2).trans rfl)
              go_simp
              with_reducible rfl
            rotate_left
            · simp only [Act.put, List.setIfInBounds_toArray, List.set_cons_zero, List.set_cons_succ, i64_w, i32_w]
              rfl
            refine one_ (i := 4) (N := some 21) (bmG 16 31) rfl rfl (by kernel_rfl) (by decide) (fun Kz hKz => ?_)
            refine goes_ Tryz.func56 (by kernel_rfl) rfl #[.agg #[.string x.f0, .int .i64 x.f1, .string x.f2]] (by rfl) rfl rfl (by (try simp only [List.map_toArray, List.map_cons, List.map_nil]); first | done | rfl) ?_
            refine (HGood.out _ hS).mono ?_
            rintro e wc ⟨rfl, hb⟩
            refine ⟨_, rfl, ?_⟩
            refine hKz.out _ _ (qAe hS hb) (fun hS => ?_)
            clear hKz Kz
            refine norm_ (a' := ?_) ?_ ?_
            rotate_left
            · show Act.put _ (some 21) _ = _
              simp only [Act.put, List.setIfInBounds_toArray, List.set_cons_zero, List.set_cons_succ, i64_w, i32_w]
              rfl
            refine pure_ (i := 5) (N := some 22) (v := ?_) (a' := ?_) (bmG 16 63) rfl rfl (by kernel_rfl) (fun _ _ _ h => h) (Or.inl ⟨by rfl, ?_⟩) ?_ ?_
            rotate_left
            · intro w'
              go_simp
              (try simp only [h400])
              with_reducible rfl
            rotate_left
            · simp only [Act.put, List.setIfInBounds_toArray, List.set_cons_zero, List.set_cons_succ, i64_w, i32_w]
              rfl
            refine pure_ (i := 6) (N := some 23) (v := ?_) (a' := ?_) (bmG 16 127) rfl rfl (by kernel_rfl) (fun _ _ _ h => h) (Or.inl ⟨by rfl, ?_⟩) ?_ ?_
            rotate_left
            · intro w'
              go_simp
              (try simp only [h400])
              with_reducible rfl
            rotate_left
            · simp only [Act.put, List.setIfInBounds_toArray, List.set_cons_zero, List.set_cons_succ, i64_w, i32_w]
              rfl
            refine pure_ (i := 7) (N := some 24) (v := ?_) (a' := ?_) (bmG 16 255) rfl rfl (by kernel_rfl) (fun _ _ _ h => h) (Or.inl ⟨by rfl, ?_⟩) ?_ ?_
            rotate_left
            · intro w'
              go_simp
              (try simp only [h400])
              with_reducible rfl
            rotate_left
            · simp only [Act.put, List.setIfInBounds_toArray, List.set_cons_zero, List.set_cons_succ, i64_w, i32_w]
              rfl
            refine pure_ (i := 8) (N := some 25) (v := undef) (a' := ?_) (bmG 16 511) rfl rfl (by kernel_rfl) (fun _ _ _ h => h) (Or.inr ⟨by rfl, rfl⟩) ?_ ?_
            rotate_left
            · simp only [Act.put, List.setIfInBounds_toArray, List.set_cons_zero, List.set_cons_succ, i64_w, i32_w]
              rfl
            refine pure_ (i := 9) (N := some 26) (v := undef) (a' := ?_) (bmG 16 1023) rfl rfl (by kernel_rfl) (fun _ _ _ h => h) (Or.inr ⟨by rfl, rfl⟩) ?_ ?_
            rotate_left
            · simp only [Act.put, List.setIfInBounds_toArray, List.set_cons_zero, List.set_cons_succ, i64_w, i32_w]
              rfl
            refine pure_ (i := 10) (N := some 27) (v := undef) (a' := ?_) (bmG 16 2047) rfl rfl (by kernel_rfl) (fun _ _ _ h => h) (Or.inr ⟨by rfl, rfl⟩) ?_ ?_
            rotate_left
            · simp only [Act.put, List.setIfInBounds_toArray, List.set_cons_zero, List.set_cons_succ, i64_w, i32_w]
              rfl
            refine pure_ (i := 11) (N := some 28) (v := undef) (a' := ?_) (bmG 16 4095) rfl rfl (by kernel_rfl) (fun _ _ _ h => h) (Or.inr ⟨by rfl, rfl⟩) ?_ ?_
            rotate_left
            · simp only [Act.put, List.setIfInBounds_toArray, List.set_cons_zero, List.set_cons_succ, i64_w, i32_w]
              rfl
            refine pure_ (i := 12) (N := some 29) (v := undef) (a' := ?_) (bmG 16 8191) rfl rfl (by kernel_rfl) (fun _ _ _ h => h) (Or.inr ⟨by rfl, rfl⟩) ?_ ?_
            rotate_left
            · simp only [Act.put, List.setIfInBounds_toArray, List.set_cons_zero, List.set_cons_succ, i64_w, i32_w]
              rfl
            refine pure_ (i := 13) (N := some 30) (v := undef) (a' := ?_) (bmG 16 16383) rfl rfl (by kernel_rfl) (fun _ _ _ h => h) (Or.inr ⟨by rfl, rfl⟩) ?_ ?_
            rotate_left
            · simp only [Act.put, List.setIfInBounds_toArray, List.set_cons_zero, List.set_cons_succ, i64_w, i32_w]
              rfl
            refine pure_ (i := 14) (N := some 31) (v := undef) (a' := ?_) (bmG 16 32767) rfl rfl (by kernel_rfl) (fun _ _ _ h => h) (Or.inr ⟨by rfl, rfl⟩) ?_ ?_
            rotate_left
            · simp only [Act.put, List.setIfInBounds_toArray, List.set_cons_zero, List.set_cons_succ, i64_w, i32_w]
              rfl
            refine pure_ (i := 15) (N := some 32) (v := ?_) (a' := ?_) (bmG 16 65535) rfl rfl (by kernel_rfl) (fun _ _ _ h => h) (Or.inl ⟨by rfl, ?_⟩) ?_ ?_
            rotate_left
            · intro w'
              go_simp
              (try simp only [h400])
              with_reducible rfl
            rotate_left
            · simp only [Act.put, List.setIfInBounds_toArray, List.set_cons_zero, List.set_cons_succ, i64_w, i32_w]
              rfl
            refine done_ (by kernel_rfl) ?_
            go_wp2_with fail
            go_ret
            exact ⟨i, rfl, by rw [HF.out]; exact decide_eq_false (by omega), qAe HB6.out hS⟩
          | true =>
            cases bf with
            | false =>
              have HF := Aside0.mk (show treeB t = false from by
                rw [HTR.out, Bool.and_false, Bool.false_and])
              refine start_ (n := 16) (S := fun w' => Below W6.heap.size W6 w') (ds := []) (bmG 16 0) (by kernel_rfl) rfl (by kernel_rfl) (qAc (Below.refl W6.heap.size W6)) (fun hS => ?_)
              generalize W6.drew = wd at hS ⊢
              refine pure_ (i := 0) (N := some 17) (v := ?_) (a' := ?_) (bmG 16 1) rfl rfl (by kernel_rfl) (fun _ _ _ h => h) (Or.inl ⟨by rfl, ?_⟩) ?_ ?_
              rotate_left
              · intro w'
                go_simp
                (try simp only [h400])
                with_reducible rfl
              rotate_left
              · simp only [Act.put, List.setIfInBounds_toArray, List.set_cons_zero, List.set_cons_succ, i64_w, i32_w]
                rfl
              refine pure_ (i := 1) (N := some 18) (v := .bool false) (a' := ?_) (bmG 16 3) rfl rfl (by kernel_rfl) (fun _ _ _ h => h) (Or.inl ⟨by rfl, ?_⟩) ?_ ?_
              · intro w'
                go_simp
                (try simp only [h400])
                (try rfl)
              rotate_left
              · simp only [Act.put, List.setIfInBounds_toArray, List.set_cons_zero, List.set_cons_succ, i64_w, i32_w]
                rfl
              refine pure_ (i := 2) (N := some 19) (v := ?_) (a' := ?_) (bmG 16 7) rfl rfl (by kernel_rfl) (fun _ _ _ h => h) (Or.inl ⟨by rfl, ?_⟩) ?_ ?_
              rotate_left
              · intro w'
                go_simp
                (try simp only [h400])
                with_reducible rfl
              rotate_left
              · simp only [Act.put, List.setIfInBounds_toArray, List.set_cons_zero, List.set_cons_succ, i64_w, i32_w]
                rfl
              refine take_ (i := 3) (N := some 20) (v := ?_) (a' := ?_) (bmG 16 15) rfl rfl (by kernel_rfl) (fun _ _ _ h => h) (Or.inl ⟨by rfl, ?_⟩) hS ?_ ?_
              rotate_left
              · intro w' hS
                have s0 := (show w'.cell? ⟨gn, 0, none⟩ = some (.string x.f0) from (qAd (qAg HN.out hS) 0).trans rfl)
                have s1 := (show w'.cell? ⟨gn, 1, none⟩ = some (.int .i64 x.f1) from (qAd (qAg HN.out hS) 1).trans rfl)
                have s2 := (show w'.cell? ⟨gn, 2, none⟩ = some (.string x.f2) from (qAd (qAg HN.out hS) 2).trans rfl)
                go_simp
                with_reducible rfl
              rotate_left
              · simp only [Act.put, List.setIfInBounds_toArray, List.set_cons_zero, List.set_cons_succ, i64_w, i32_w]
                rfl
              refine one_ (i := 4) (N := some 21) (bmG 16 31) rfl rfl (by kernel_rfl) (by decide) (fun Kz hKz => ?_)
              refine goes_ Tryz.func56 (by kernel_rfl) rfl #[.agg #[.string x.f0, .int .i64 x.f1, .string x.f2]] (by rfl) rfl rfl (by (try simp only [List.map_toArray, List.map_cons, List.map_nil]); first | done | rfl) ?_
              refine (HGood.out _ hS).mono ?_
              rintro e wc ⟨rfl, hb⟩
              refine ⟨_, rfl, ?_⟩
              refine hKz.out _ _ (qAe hS hb) (fun hS => ?_)
              clear hKz Kz
              refine norm_ (a' := ?_) ?_ ?_
              rotate_left
              · show Act.put _ (some 21) _ = _
                simp only [Act.put, List.setIfInBounds_toArray, List.set_cons_zero, List.set_cons_succ, i64_w, i32_w]
                rfl
              refine pure_ (i := 5) (N := some 22) (v := ?_) (a' := ?_) (bmG 16 63) rfl rfl (by kernel_rfl) (fun _ _ _ h => h) (Or.inl ⟨by rfl, ?_⟩) ?_ ?_
              rotate_left
              · intro w'
                go_simp
                (try simp only [h400])
                with_reducible rfl
              rotate_left
              · simp only [Act.put, List.setIfInBounds_toArray, List.set_cons_zero, List.set_cons_succ, i64_w, i32_w]
                rfl
              refine pure_ (i := 6) (N := some 23) (v := ?_) (a' := ?_) (bmG 16 127) rfl rfl (by kernel_rfl) (fun _ _ _ h => h) (Or.inl ⟨by rfl, ?_⟩) ?_ ?_
              rotate_left
              · intro w'
                go_simp
                (try simp only [h400])
                with_reducible rfl
              rotate_left
              · simp only [Act.put, List.setIfInBounds_toArray, List.set_cons_zero, List.set_cons_succ, i64_w, i32_w]
                rfl
              refine pure_ (i := 7) (N := some 24) (v := ?_) (a' := ?_) (bmG 16 255) rfl rfl (by kernel_rfl) (fun _ _ _ h => h) (Or.inl ⟨by rfl, ?_⟩) ?_ ?_
              rotate_left
              · intro w'
                go_simp
                (try simp only [h400])
                with_reducible rfl
              rotate_left
              · simp only [Act.put, List.setIfInBounds_toArray, List.set_cons_zero, List.set_cons_succ, i64_w, i32_w]
                rfl
              refine take_ (i := 8) (N := some 25) (v := ?_) (a' := ?_) (bmG 16 511) rfl rfl (by kernel_rfl) (fun _ _ _ h => h) (Or.inl ⟨by rfl, ?_⟩) hS ?_ ?_
              rotate_left
              · intro w' hS
                have s0 := (show w'.cell? ⟨gn, 0, none⟩ = some (.string x.f0) from (qAd (qAg HN.out hS) 0).trans rfl)
                have s1 := (show w'.cell? ⟨gn, 1, none⟩ = some (.int .i64 x.f1) from (qAd (qAg HN.out hS) 1).trans rfl)
                have s2 := (show w'.cell? ⟨gn, 2, none⟩ = some (.string x.f2) from (qAd (qAg HN.out hS) 2).trans rfl)
                go_simp
                with_reducible rfl
              rotate_left
              · simp only [Act.put, List.setIfInBounds_toArray, List.set_cons_zero, List.set_cons_succ, i64_w, i32_w]
                rfl
              refine pure_ (i := 9) (N := some 26) (v := ?_) (a' := ?_) (bmG 16 1023) rfl rfl (by kernel_rfl) (fun _ _ _ h => h) (Or.inl ⟨by rfl, ?_⟩) ?_ ?_
              rotate_left
              · intro w'
                go_simp
                (try simp only [h400])
                with_reducible rfl
              rotate_left
              · simp only [Act.put, List.setIfInBounds_toArray, List.set_cons_zero, List.set_cons_succ, i64_w, i32_w]
                rfl
              refine pure_ (i := 10) (N := some 27) (v := ?_) (a' := ?_) (bmG 16 2047) rfl rfl (by kernel_rfl) (fun _ _ _ h => h) (Or.inl ⟨by rfl, ?_⟩) ?_ ?_
              rotate_left
              · intro w'
                go_simp
                (try simp only [h400])
                with_reducible rfl
              rotate_left
              · simp only [Act.put, List.setIfInBounds_toArray, List.set_cons_zero, List.set_cons_succ, i64_w, i32_w]
                rfl
              refine pure_ (i := 11) (N := some 28) (v := ?_) (a' := ?_) (bmG 16 4095) rfl rfl (by kernel_rfl) (fun _ _ _ h => h) (Or.inl ⟨by rfl, ?_⟩) ?_ ?_
              rotate_left
              · intro w'
                go_simp
                (try simp only [h400])
                with_reducible rfl
              rotate_left
              · simp only [Act.put, List.setIfInBounds_toArray, List.set_cons_zero, List.set_cons_succ, i64_w, i32_w]
                rfl
              refine pure_ (i := 12) (N := some 29) (v := ?_) (a' := ?_) (bmG 16 8191) rfl rfl (by kernel_rfl) (fun _ _ _ h => h) (Or.inl ⟨by rfl, ?_⟩) ?_ ?_
              rotate_left
              · intro w'
                go_simp
                (try simp only [h400])
                with_reducible rfl
              rotate_left
              · simp only [Act.put, List.setIfInBounds_toArray, List.set_cons_zero, List.set_cons_succ, i64_w, i32_w]
                rfl
              refine one_ (i := 13) (N := some 30) (bmG 16 16383) rfl rfl (by kernel_rfl) (by decide) (fun Kz hKz => ?_)
              refine goes_ Tryz.func57 (by kernel_rfl) rfl #[.agg #[.string x.f0, .int .i64 x.f1, .string x.f2], .slice (some ad) i c0, .map (some w.heap.size)] (by rfl) rfl rfl (by (try simp only [List.map_toArray, List.map_cons, List.map_nil]); first | done | rfl) ?_
              refine (HFol.out _ hS).mono ?_
              rintro e wc ⟨rfl, hb⟩
              refine ⟨_, rfl, ?_⟩
              refine hKz.out _ _ (qAe hS hb) (fun hS => ?_)
              clear hKz Kz
              refine norm_ (a' := ?_) ?_ ?_
              rotate_left
              · show Act.put _ (some 30) _ = _
                simp only [Act.put, List.setIfInBounds_toArray, List.set_cons_zero, List.set_cons_succ, i64_w, i32_w]
                rfl
              refine pure_ (i := 14) (N := some 31) (v := ?_) (a' := ?_) (bmG 16 32767) rfl rfl (by kernel_rfl) (fun _ _ _ h => h) (Or.inl ⟨by rfl, ?_⟩) ?_ ?_
              rotate_left
              · intro w'
                go_simp
                (try simp only [h400])
                with_reducible rfl
              rotate_left
              · simp only [Act.put, List.setIfInBounds_toArray, List.set_cons_zero, List.set_cons_succ, i64_w, i32_w]
                rfl
              refine pure_ (i := 15) (N := some 32) (v := ?_) (a' := ?_) (bmG 16 65535) rfl rfl (by kernel_rfl) (fun _ _ _ h => h) (Or.inl ⟨by rfl, ?_⟩) ?_ ?_
              rotate_left
              · intro w'
                go_simp
                (try simp only [h400])
                with_reducible rfl
              rotate_left
              · simp only [Act.put, List.setIfInBounds_toArray, List.set_cons_zero, List.set_cons_succ, i64_w, i32_w]
                rfl
              refine done_ (by kernel_rfl) ?_
              go_wp2_with fail
              go_ret
              exact ⟨i, rfl, by rw [HF.out]; exact decide_eq_false (by omega), qAe HB6.out hS⟩
            | true =>
              refine start_ (n := 16) (S := fun w' => Below W6.heap.size W6 w') (ds := []) (bmG 16 0) (by kernel_rfl) rfl (by kernel_rfl) (qAc (Below.refl W6.heap.size W6)) (fun hS => ?_)
              generalize W6.drew = wd at hS ⊢
              refine pure_ (i := 0) (N := some 17) (v := ?_) (a' := ?_) (bmG 16 1) rfl rfl (by kernel_rfl) (fun _ _ _ h => h) (Or.inl ⟨by rfl, ?_⟩) ?_ ?_
              rotate_left
              · intro w'
                go_simp
                (try simp only [h400])
                with_reducible rfl
              rotate_left
              · simp only [Act.put, List.setIfInBounds_toArray, List.set_cons_zero, List.set_cons_succ, i64_w, i32_w]
                rfl
              refine pure_ (i := 1) (N := some 18) (v := .bool false) (a' := ?_) (bmG 16 3) rfl rfl (by kernel_rfl) (fun _ _ _ h => h) (Or.inl ⟨by rfl, ?_⟩) ?_ ?_
              · intro w'
                go_simp
                (try simp only [h400])
                (try rfl)
              rotate_left
              · simp only [Act.put, List.setIfInBounds_toArray, List.set_cons_zero, List.set_cons_succ, i64_w, i32_w]
                rfl
              refine pure_ (i := 2) (N := some 19) (v := ?_) (a' := ?_) (bmG 16 7) rfl rfl (by kernel_rfl) (fun _ _ _ h => h) (Or.inl ⟨by rfl, ?_⟩) ?_ ?_
              rotate_left
              · intro w'
                go_simp
                (try simp only [h400])
                with_reducible rfl
              rotate_left
              · simp only [Act.put, List.setIfInBounds_toArray, List.set_cons_zero, List.set_cons_succ, i64_w, i32_w]
                rfl
              refine take_ (i := 3) (N := some 20) (v := ?_) (a' := ?_) (bmG 16 15) rfl rfl (by kernel_rfl) (fun _ _ _ h => h) (Or.inl ⟨by rfl, ?_⟩) hS ?_ ?_
              rotate_left
              · intro w' hS
                have s0 := (show w'.cell? ⟨gn, 0, none⟩ = some (.string x.f0) from (qAd (qAg HN.out hS) 0).trans rfl)
                have s1 := (show w'.cell? ⟨gn, 1, none⟩ = some (.int .i64 x.f1) from (qAd (qAg HN.out hS) 1).trans rfl)
                have s2 := (show w'.cell? ⟨gn, 2, none⟩ = some (.string x.f2) from (qAd (qAg HN.out hS) 2).trans rfl)
                go_simp
                with_reducible rfl
              rotate_left
              · simp only [Act.put, List.setIfInBounds_toArray, List.set_cons_zero, List.set_cons_succ, i64_w, i32_w]
                rfl
              refine one_ (i := 4) (N := some 21) (bmG 16 31) rfl rfl (by kernel_rfl) (by decide) (fun Kz hKz => ?_)
              refine goes_ Tryz.func56 (by kernel_rfl) rfl #[.agg #[.string x.f0, .int .i64 x.f1, .string x.f2]] (by rfl) rfl rfl (by (try simp only [List.map_toArray, List.map_cons, List.map_nil]); first | done | rfl) ?_
              refine (HGood.out _ hS).mono ?_
              rintro e wc ⟨rfl, hb⟩
              refine ⟨_, rfl, ?_⟩
              refine hKz.out _ _ (qAe hS hb) (fun hS => ?_)
              clear hKz Kz
              refine norm_ (a' := ?_) ?_ ?_
              rotate_left
              · show Act.put _ (some 21) _ = _
                simp only [Act.put, List.setIfInBounds_toArray, List.set_cons_zero, List.set_cons_succ, i64_w, i32_w]
                rfl
              refine pure_ (i := 5) (N := some 22) (v := ?_) (a' := ?_) (bmG 16 63) rfl rfl (by kernel_rfl) (fun _ _ _ h => h) (Or.inl ⟨by rfl, ?_⟩) ?_ ?_
              rotate_left
              · intro w'
                go_simp
                (try simp only [h400])
                with_reducible rfl
              rotate_left
              · simp only [Act.put, List.setIfInBounds_toArray, List.set_cons_zero, List.set_cons_succ, i64_w, i32_w]
                rfl
              refine pure_ (i := 6) (N := some 23) (v := ?_) (a' := ?_) (bmG 16 127) rfl rfl (by kernel_rfl) (fun _ _ _ h => h) (Or.inl ⟨by rfl, ?_⟩) ?_ ?_
              rotate_left
              · intro w'
                go_simp
                (try simp only [h400])
                with_reducible rfl
              rotate_left
              · simp only [Act.put, List.setIfInBounds_toArray, List.set_cons_zero, List.set_cons_succ, i64_w, i32_w]
                rfl
              refine pure_ (i := 7) (N := some 24) (v := ?_) (a' := ?_) (bmG 16 255) rfl rfl (by kernel_rfl) (fun _ _ _ h => h) (Or.inl ⟨by rfl, ?_⟩) ?_ ?_
              rotate_left
              · intro w'
                go_simp
                (try simp only [h400])
                with_reducible rfl
              rotate_left
              · simp only [Act.put, List.setIfInBounds_toArray, List.set_cons_zero, List.set_cons_succ, i64_w, i32_w]
                rfl
              refine take_ (i := 8) (N := some 25) (v := ?_) (a' := ?_) (bmG 16 511) rfl rfl (by kernel_rfl) (fun _ _ _ h => h) (Or.inl ⟨by rfl, ?_⟩) hS ?_ ?_
              rotate_left
              · intro w' hS
                have s0 := (show w'.cell? ⟨gn, 0, none⟩ = some (.string x.f0) from (qAd (qAg HN.out hS) 0).trans rfl)
                have s1 := (show w'.cell? ⟨gn, 1, none⟩ = some (.int .i64 x.f1) from (qAd (qAg HN.out hS) 1).trans rfl)
                have s2 := (show w'.cell? ⟨gn, 2, none⟩ = some (.string x.f2) from (qAd (qAg HN.out hS) 2).trans rfl)
                go_simp
                with_reducible rfl
              rotate_left
              · simp only [Act.put, List.setIfInBounds_toArray, List.set_cons_zero, List.set_cons_succ, i64_w, i32_w]
                rfl
              refine pure_ (i := 9) (N := some 26) (v := ?_) (a' := ?_) (bmG 16 1023) rfl rfl (by kernel_rfl) (fun _ _ _ h => h) (Or.inl ⟨by rfl, ?_⟩) ?_ ?_
              rotate_left
              · intro w'
                go_simp
                (try simp only [h400])
                with_reducible rfl
              rotate_left
              · simp only [Act.put, List.setIfInBounds_toArray, List.set_cons_zero, List.set_cons_succ, i64_w, i32_w]
                rfl
              refine pure_ (i := 10) (N := some 27) (v := ?_) (a' := ?_) (bmG 16 2047) rfl rfl (by kernel_rfl) (fun _ _ _ h => h) (Or.inl ⟨by rfl, ?_⟩) ?_ ?_
              rotate_left
              · intro w'
                go_simp
                (try simp only [h400])
                with_reducible rfl
              rotate_left
              · simp only [Act.put, List.setIfInBounds_toArray, List.set_cons_zero, List.set_cons_succ, i64_w, i32_w]
                rfl
              refine pure_ (i := 11) (N := some 28) (v := ?_) (a' := ?_) (bmG 16 4095) rfl rfl (by kernel_rfl) (fun _ _ _ h => h) (Or.inl ⟨by rfl, ?_⟩) ?_ ?_
              rotate_left
              · intro w'
                go_simp
                (try simp only [h400])
                with_reducible rfl
              rotate_left
              · simp only [Act.put, List.setIfInBounds_toArray, List.set_cons_zero, List.set_cons_succ, i64_w, i32_w]
                rfl
              refine pure_ (i := 12) (N := some 29) (v := ?_) (a' := ?_) (bmG 16 8191) rfl rfl (by kernel_rfl) (fun _ _ _ h => h) (Or.inl ⟨by rfl, ?_⟩) ?_ ?_
              rotate_left
              · intro w'
                go_simp
                (try simp only [h400])
                with_reducible rfl
              rotate_left
              · simp only [Act.put, List.setIfInBounds_toArray, List.set_cons_zero, List.set_cons_succ, i64_w, i32_w]
                rfl
              refine one_ (i := 13) (N := some 30) (bmG 16 16383) rfl rfl (by kernel_rfl) (by decide) (fun Kz hKz => ?_)
              refine goes_ Tryz.func57 (by kernel_rfl) rfl #[.agg #[.string x.f0, .int .i64 x.f1, .string x.f2], .slice (some ad) i c0, .map (some w.heap.size)] (by rfl) rfl rfl (by (try simp only [List.map_toArray, List.map_cons, List.map_nil]); first | done | rfl) ?_
              refine (HFol.out _ hS).mono ?_
              rintro e wc ⟨rfl, hb⟩
              refine ⟨_, rfl, ?_⟩
              refine hKz.out _ _ (qAe hS hb) (fun hS => ?_)
              clear hKz Kz
              refine norm_ (a' := ?_) ?_ ?_
              rotate_left
              · show Act.put _ (some 30) _ = _
                simp only [Act.put, List.setIfInBounds_toArray, List.set_cons_zero, List.set_cons_succ, i64_w, i32_w]
                rfl
              refine pure_ (i := 14) (N := some 31) (v := ?_) (a' := ?_) (bmG 16 32767) rfl rfl (by kernel_rfl) (fun _ _ _ h => h) (Or.inl ⟨by rfl, ?_⟩) ?_ ?_
              rotate_left
              · intro w'
                go_simp
                (try simp only [h400])
                with_reducible rfl
              rotate_left
              · simp only [Act.put, List.setIfInBounds_toArray, List.set_cons_zero, List.set_cons_succ, i64_w, i32_w]
                rfl
              refine pure_ (i := 15) (N := some 32) (v := ?_) (a' := ?_) (bmG 16 65535) rfl rfl (by kernel_rfl) (fun _ _ _ h => h) (Or.inl ⟨by rfl, ?_⟩) ?_ ?_
              rotate_left
              · intro w'
                go_simp
                (try simp only [h400])
                with_reducible rfl
              rotate_left
              · simp only [Act.put, List.setIfInBounds_toArray, List.set_cons_zero, List.set_cons_succ, i64_w, i32_w]
                rfl
              refine done_ (by kernel_rfl) ?_
              obtain ⟨hi4, hgx⟩ : i < 400 ∧ goodN x = true := by
                refine ⟨by have := of_decide_eq_false h400; omega, ?_⟩
                exact HGx.out
              have hps : x.f0.size ≤ 200 := qB6 (by unfold goodN at hgx; rw [Bool.and_eq_true, Bool.and_eq_true] at hgx; exact hgx.1.1)
              have HB8 := Aside0.mk (qAe HB6.out hS)
              have HM8 := Aside0.mk (qBq HM6.out hS)
              obtain ⟨bk, hbk⟩ : ∃ b, (x.f1 == 1) = b := ⟨_, rfl⟩
              have hz0 := (show wc.cell? ⟨gn, 0, none⟩ = some (.string x.f0) from (qAd (qAg HN.out hS) 0).trans rfl)
              have hz1 := (show wc.cell? ⟨gn, 1, none⟩ = some (.int .i64 x.f1) from (qAd (qAg HN.out hS) 1).trans rfl)
              obtain ⟨hris, hall⟩ := qI2 HR.out HFx.out
              have HRs := Aside0.mk hris
              have HAl := Aside0.mk hall
              have HT9 := Aside0.mk (show treeB t = treeR (t.take (i + 1)) (t.drop (i + 1)) from by rw [HTR.out, decide_eq_true hi4]; rfl)
              have htk := Aside0.mk (show t.take (i + 1) = t.take i ++ [x] from by rw [HX.out]; exact List.take_succ_eq_append_getElem hil)
              have HBK := Aside0.mk hbk
              clear hS hgx hris hall HGood HFol HTR HN HB6 HM6
              go_wp2_with (at_mapUpdate; refine wpList_mapUpdate_own _ rfl _ _ _ 88 rfl 9 4 keyS Tryz.underlying88 _ w.heap.size i D rfl HM8.out (by simp only [maxLen]; omega) _ _ (.string x.f0.data.toList) rfl rfl (keyOf_string_mk Tryz.underlying9 (by simp only [maxLen]; omega)) (.lit (.bool bk)) [] (plainElem_bool Tryz.underlying4 bk) ?_; intro w9 hm9 hg9; have HM9 := Aside0.mk hm9; have HB9 := Aside0.mk (belowG HB8.out hg9 (fun k hk => by cases hk; exact Nat.le_refl _)); clear hm9 hg9)
              refine ⟨⟨i + 1, _, by simp, by omega, HM9, ⟨fun p => ?_⟩, ⟨by rw [htk.out]; exact HRs.out⟩, HT9, HB9⟩, by simp [intOf]; omega⟩
              have hIM : IsMap D := let ⟨_, _, _, _, _, e⟩ := HM8.out; ⟨_, e⟩
              rw [htk.out, qHt]
              by_cases e : p = x.f0
              · rw [e, atKey_put_same (k := .string x.f0.data.toList) hIM (by exact trivial), qHu HAl.out, decide_eq_true (rfl : x.f0 = x.f0), ← HBK.out, Bool.false_or, Bool.true_and]
                congr 2
              · rw [atKey_put_other (fun h => e (qAv (Lit.string.inj h))), HD.out p, decide_eq_false (fun h => e h.symm), Bool.false_and, Bool.or_false]
      · have hic : decide ((i : Int) < (t.length : Int)) = false := decide_eq_false (by omega)
        have hi2 : i = t.length := by omega
        have HF := Aside0.mk (show treeB t = true from by
          rw [HT.out, hi2, List.drop_length]
          cases t.take t.length <;> rfl)
        subst hi2
        clear HM HD HR HT hil hi
        go_wp2_with fail
        go_ret
        exact ⟨-1, rfl, by rw [HF.out]; rfl, HB.out⟩
theorem qE5 (A0 : Option Addr) (c0 : Nat) (t : List S47) (w : World) (hT : Aside0 (Tabs w)) (hC : Kd.C k47 w A0 t.length t) (hc : t.length ≤ c0) (hn : t.length ≤ 100000) :
    Calls Tryz.prog 26 #[.slice A0 t.length c0] w fun e w' => e = .returned (.bool (treeB t)) ∧ Below w.heap.size w w' := by
  have X := Aside0.mk hC
  clear hC
  go_enter Tryz.func26, Tryz.ntmps26
  go_wp2_with fail
  refine (qIv A0 c0 t w hT X.out hc hn).mono ?_
  rintro e w1 ⟨r, rfl, hr, hb⟩
  have HB := Aside0.mk hb
  have HR := Aside0.mk hr
  clear hb hr
  go_wp2_with fail
  go_ret
  exact ⟨by rw [← HR.out]; rfl, HB.out⟩
end Go.Proofs.YtdijnmcfpbceaaaGreatDoor.X

namespace Go.Proofs.YtdijnmcfpbceaaaGreatDoor.P
open Go.Proofs.YtdijnmcfpbceaaaGreatDoor.X
open Go.RowKit Go.Proofs.YtdijnmcfpbceaaaGreatDoorW.PrintWords Go.Proofs.YtdijnmcfpbceaaaGreatDoorW.PrintLast Go.Proofs.YtdijnmcfpbceaaaGreatDoorW.PrintMore
attribute [local go_sem] qAr qAu
set_option linter.unusedVariables false
set_option linter.unusedSimpArgs false
def tar_name.f (a0_0 : ByteArray) (a0_1 : Int) (a0_2 : ByteArray) : Option (ByteArray) := if a0_0.toList = ([] : List UInt8) then (some (⟨#[46]⟩ : ByteArray)) else (some a0_0)
set_option maxHeartbeats 8000000 in
set_option maxRecDepth 100000 in
theorem tar_name.calls (a0_0 : ByteArray) (a0_1 : Int) (a0_2 : ByteArray) (r : ByteArray) (w : World) (h : tar_name.f a0_0 a0_1 a0_2 = some r) :
  Calls Tryz.prog 61 #[.agg #[.string a0_0, .int .i64 a0_1, .string a0_2]] w fun e w' => e = .returned (.string r) ∧ Below w.heap.size w w' := by
 have hu47 := Tryz.underlying47
 have HB := Aside0.mk (Below.refl w.heap.size w)
 have H : (if a0_0.toList = ([] : List UInt8) then (some (⟨#[46]⟩ : ByteArray)) else (some a0_0)) = some r := h
 clear h
 by_cases c2 : a0_0.toList = ([] : List UInt8)
 ·rw [if_pos c2] at H
  have c2b0 : (a0_0.toList == ([] : List UInt8)) = true := beq_iff_eq.mpr c2
  have c2b1 : (a0_0.toList != ([] : List UInt8)) = false := bne_eq_false_iff_eq.mpr c2
  clear c2
  obtain rfl := Option.some.inj H
  go_enter Tryz.func61, Tryz.ntmps61
  go_wp2_with (first | ((with_reducible refine qBr (N := 1) rfl ?_); refine qBf ?hg (N := 1) ?hd (cs := #[.string a0_0, .int .i64 a0_1, .string a0_2]) (t := 47) ?hr ?_; (case hd => rfl); (case hg => rfl); (case hr => first | (go_simp; done) | (go_simp; rfl)); intro gb101 hg w3 hbox hb; have n0_ := Aside0.mk (qAe (by repeat (first | (with_reducible first | exact HB.out | apply qAb | apply qAa | apply qAc) | exact HB.out)) hb); have n1_ := Aside0.mk (hbox); have n2_ := Aside0.mk ((by rw [hg]; exact (qAo (by repeat (first | (with_reducible first | exact HB.out | apply qAb | apply qAa | apply qAc) | exact HB.out))) : w.heap.size ≤ gb101)); have n3_ := Aside0.mk ((by rw [hg]; exact (qAo (by repeat (first | (with_reducible first | exact HB.out | apply qAb | apply qAa | apply qAc) | exact HB.out))) : w.heap.size ≤ gb101)); clear HB; have HB := n0_; have BK101 := n1_; have GW101 := n2_; have GE101 := n3_; clear n0_ n1_ n2_ n3_; clear hb hbox hg; have hcz4_0 : w3.cell? ⟨gb101, 0, none⟩ = some (.string a0_0) := (qAd BK101.out 0).trans rfl; have hcz4_1 : w3.cell? ⟨gb101, 1, none⟩ = some (.int .i64 a0_1) := (qAd BK101.out 1).trans rfl; have hcz4_2 : w3.cell? ⟨gb101, 2, none⟩ = some (.string a0_2) := (qAd BK101.out 2).trans rfl; have hfz4_0 := qAf BK101.out 0; have hfz4_1 := qAf BK101.out 1; have hfz4_2 := qAf BK101.out 2))
  go_ret
  exact ⟨by first | rfl | (simp [qAj, qAi] <;> rfl) | (simp [*, qAj, qAi] <;> rfl), by repeat (first | (with_reducible first | exact HB.out | apply qAb | apply qAa | apply qAc | refine below_set ?_ GE101.out) | exact HB.out)⟩
 ·rw [if_neg c2] at H
  have c2b0 : (a0_0.toList == ([] : List UInt8)) = false := beq_eq_false_iff_ne.mpr c2
  have c2b1 : (a0_0.toList != ([] : List UInt8)) = true := bne_iff_ne.mpr c2
  obtain rfl := Option.some.inj H
  go_enter Tryz.func61, Tryz.ntmps61
  go_wp2_with (first | ((with_reducible refine qBr (N := 1) rfl ?_); refine qBf ?hg (N := 1) ?hd (cs := #[.string a0_0, .int .i64 a0_1, .string a0_2]) (t := 47) ?hr ?_; (case hd => rfl); (case hg => rfl); (case hr => first | (go_simp; done) | (go_simp; rfl)); intro gb101 hg w5 hbox hb; have n0_ := Aside0.mk (qAe (by repeat (first | (with_reducible first | exact HB.out | apply qAb | apply qAa | apply qAc) | exact HB.out)) hb); have n1_ := Aside0.mk (hbox); have n2_ := Aside0.mk ((by rw [hg]; exact (qAo (by repeat (first | (with_reducible first | exact HB.out | apply qAb | apply qAa | apply qAc) | exact HB.out))) : w.heap.size ≤ gb101)); have n3_ := Aside0.mk ((by rw [hg]; exact (qAo (by repeat (first | (with_reducible first | exact HB.out | apply qAb | apply qAa | apply qAc) | exact HB.out))) : w.heap.size ≤ gb101)); clear HB; have HB := n0_; have BK101 := n1_; have GW101 := n2_; have GE101 := n3_; clear n0_ n1_ n2_ n3_; clear hb hbox hg; have hcz6_0 : w5.cell? ⟨gb101, 0, none⟩ = some (.string a0_0) := (qAd BK101.out 0).trans rfl; have hcz6_1 : w5.cell? ⟨gb101, 1, none⟩ = some (.int .i64 a0_1) := (qAd BK101.out 1).trans rfl; have hcz6_2 : w5.cell? ⟨gb101, 2, none⟩ = some (.string a0_2) := (qAd BK101.out 2).trans rfl; have hfz6_0 := qAf BK101.out 0; have hfz6_1 := qAf BK101.out 1; have hfz6_2 := qAf BK101.out 2))
  go_ret
  exact ⟨by first | rfl | (simp [qAj, qAi] <;> rfl) | (simp [*, qAj, qAi] <;> rfl), by repeat (first | (with_reducible first | exact HB.out | apply qAb | apply qAa | apply qAc | refine below_set ?_ GE101.out) | exact HB.out)⟩
end Go.Proofs.YtdijnmcfpbceaaaGreatDoor.P

namespace Go.Proofs.YtdijnmcfpbceaaaGreatDoor.P
open Go.Proofs.YtdijnmcfpbceaaaGreatDoor.X
open Go.RowKit Go.Proofs.YtdijnmcfpbceaaaGreatDoorW.PrintWords Go.Proofs.YtdijnmcfpbceaaaGreatDoorW.PrintLast Go.Proofs.YtdijnmcfpbceaaaGreatDoorW.PrintMore
attribute [local go_sem] qAr qAu
set_option linter.unusedVariables false
set_option linter.unusedSimpArgs false
def tar_extra.f (a0_0 : ByteArray) (a0_1 : Int) (a0_2 : ByteArray) : Option (ByteArray) := (tar_name.f a0_0 a0_1 a0_2).bind fun t103 => (if (t103.size : Int) > 100 then ((tar_Record.f (⟨#[112, 97, 116, 104]⟩ : ByteArray) t103).bind fun t104 => (if 0 + t104.size ≤ 9223372036854775807 then (if a0_1 = 4 then (if (a0_2.size : Int) > 100 then ((tar_Record.f (⟨#[108, 105, 110, 107, 112, 97, 116, 104]⟩ : ByteArray) a0_2).bind fun t105 => (if ((⟨#[]⟩ : ByteArray) ++ t104).size + t105.size ≤ 9223372036854775807 then (some (((⟨#[]⟩ : ByteArray) ++ t104) ++ t105)) else (none))) else (some ((⟨#[]⟩ : ByteArray) ++ t104))) else (some ((⟨#[]⟩ : ByteArray) ++ t104))) else (none))) else (if a0_1 = 4 then (if (a0_2.size : Int) > 100 then ((tar_Record.f (⟨#[108, 105, 110, 107, 112, 97, 116, 104]⟩ : ByteArray) a0_2).bind fun t106 => (if 0 + t106.size ≤ 9223372036854775807 then (some ((⟨#[]⟩ : ByteArray) ++ t106)) else (none))) else (some (⟨#[]⟩ : ByteArray))) else (some (⟨#[]⟩ : ByteArray))))
set_option maxHeartbeats 8000000 in
set_option maxRecDepth 100000 in
theorem tar_extra.calls (a0_0 : ByteArray) (a0_1 : Int) (a0_2 : ByteArray) (r : ByteArray) (w : World) (hT : Aside0 (Tabs w)) (h : tar_extra.f a0_0 a0_1 a0_2 = some r) :
  Calls Tryz.prog 58 #[.agg #[.string a0_0, .int .i64 a0_1, .string a0_2]] w fun e w' => e = .returned (.string r) ∧ Below w.heap.size w w' := by
 have hu47 := Tryz.underlying47
 have HB := Aside0.mk (Below.refl w.heap.size w)
 have H : ((tar_name.f a0_0 a0_1 a0_2).bind fun t103 => (if (t103.size : Int) > 100 then ((tar_Record.f (⟨#[112, 97, 116, 104]⟩ : ByteArray) t103).bind fun t104 => (if 0 + t104.size ≤ 9223372036854775807 then (if a0_1 = 4 then (if (a0_2.size : Int) > 100 then ((tar_Record.f (⟨#[108, 105, 110, 107, 112, 97, 116, 104]⟩ : ByteArray) a0_2).bind fun t105 => (if ((⟨#[]⟩ : ByteArray) ++ t104).size + t105.size ≤ 9223372036854775807 then (some (((⟨#[]⟩ : ByteArray) ++ t104) ++ t105)) else (none))) else (some ((⟨#[]⟩ : ByteArray) ++ t104))) else (some ((⟨#[]⟩ : ByteArray) ++ t104))) else (none))) else (if a0_1 = 4 then (if (a0_2.size : Int) > 100 then ((tar_Record.f (⟨#[108, 105, 110, 107, 112, 97, 116, 104]⟩ : ByteArray) a0_2).bind fun t106 => (if 0 + t106.size ≤ 9223372036854775807 then (some ((⟨#[]⟩ : ByteArray) ++ t106)) else (none))) else (some (⟨#[]⟩ : ByteArray))) else (some (⟨#[]⟩ : ByteArray))))) = some r := h
 clear h
 replace H := Option.bind_eq_some_iff.mp H
 obtain ⟨t103, A20, H⟩ := H
 replace H : (if (t103.size : Int) > 100 then ((tar_Record.f (⟨#[112, 97, 116, 104]⟩ : ByteArray) t103).bind fun t104 => (if 0 + t104.size ≤ 9223372036854775807 then (if a0_1 = 4 then (if (a0_2.size : Int) > 100 then ((tar_Record.f (⟨#[108, 105, 110, 107, 112, 97, 116, 104]⟩ : ByteArray) a0_2).bind fun t105 => (if ((⟨#[]⟩ : ByteArray) ++ t104).size + t105.size ≤ 9223372036854775807 then (some (((⟨#[]⟩ : ByteArray) ++ t104) ++ t105)) else (none))) else (some ((⟨#[]⟩ : ByteArray) ++ t104))) else (some ((⟨#[]⟩ : ByteArray) ++ t104))) else (none))) else (if a0_1 = 4 then (if (a0_2.size : Int) > 100 then ((tar_Record.f (⟨#[108, 105, 110, 107, 112, 97, 116, 104]⟩ : ByteArray) a0_2).bind fun t106 => (if 0 + t106.size ≤ 9223372036854775807 then (some ((⟨#[]⟩ : ByteArray) ++ t106)) else (none))) else (some (⟨#[]⟩ : ByteArray))) else (some (⟨#[]⟩ : ByteArray)))) = some r := H
 have A2 := Aside0.mk A20
 clear A20
 by_cases c3 : (t103.size : Int) > 100
 ·rw [if_pos c3] at H
  have c3b0 : decide (100 < (t103.size : Int)) = true := decide_eq_true c3
  have c3b1 : decide (100 < t103.size) = true := decide_eq_true (by omega)
  clear c3
  replace H := Option.bind_eq_some_iff.mp H
  obtain ⟨t104, A40, H⟩ := H
  replace H : (if 0 + t104.size ≤ 9223372036854775807 then (if a0_1 = 4 then (if (a0_2.size : Int) > 100 then ((tar_Record.f (⟨#[108, 105, 110, 107, 112, 97, 116, 104]⟩ : ByteArray) a0_2).bind fun t105 => (if ((⟨#[]⟩ : ByteArray) ++ t104).size + t105.size ≤ 9223372036854775807 then (some (((⟨#[]⟩ : ByteArray) ++ t104) ++ t105)) else (none))) else (some ((⟨#[]⟩ : ByteArray) ++ t104))) else (some ((⟨#[]⟩ : ByteArray) ++ t104))) else (none)) = some r := H
  have A4 := Aside0.mk A40
  clear A40
  by_cases c5 : 0 + t104.size ≤ 9223372036854775807
  ·rw [if_pos c5] at H
   have c5b0 := eq_true c5
   have c5b1 : decide (0 + t104.size ≤ 9223372036854775807) = true := decide_eq_true c5
   try have c5b2 : (9223372036854775807 < 0 + t104.size) = False := eq_false (Nat.not_lt.2 c5)
   have Sc5 := Aside0.mk c5
   clear c5
   by_cases c6 : a0_1 = 4
   ·rw [if_pos c6] at H
    have c6b0 : (a0_1 == 4) = true := beq_iff_eq.mpr c6
    have c6b1 : (a0_1 != 4) = false := bne_eq_false_iff_eq.mpr c6
    clear c6
    by_cases c7 : (a0_2.size : Int) > 100
    ·rw [if_pos c7] at H
     have c7b0 : decide (100 < (a0_2.size : Int)) = true := decide_eq_true c7
     have c7b1 : decide (100 < a0_2.size) = true := decide_eq_true (by omega)
     clear c7
     replace H := Option.bind_eq_some_iff.mp H
     obtain ⟨t105, A80, H⟩ := H
     replace H : (if ((⟨#[]⟩ : ByteArray) ++ t104).size + t105.size ≤ 9223372036854775807 then (some (((⟨#[]⟩ : ByteArray) ++ t104) ++ t105)) else (none)) = some r := H
     have A8 := Aside0.mk A80
     clear A80
     by_cases c9 : ((⟨#[]⟩ : ByteArray) ++ t104).size + t105.size ≤ 9223372036854775807
     ·rw [if_pos c9] at H
      have c9b0 := eq_true c9
      have c9b1 : decide (((⟨#[]⟩ : ByteArray) ++ t104).size + t105.size ≤ 9223372036854775807) = true := decide_eq_true c9
      try have c9b2 : (9223372036854775807 < ((⟨#[]⟩ : ByteArray) ++ t104).size + t105.size) = False := eq_false (Nat.not_lt.2 c9)
      have Sc9 := Aside0.mk c9
      clear c9
      obtain rfl := Option.some.inj H
      go_enter Tryz.func58, Tryz.ntmps58
      go_wp2_with (first | ((with_reducible refine qBr (N := 1) rfl ?_); (try (refine qBk (by rfl) ?_; dsimp only)); refine qBf ?hg (N := 1) ?hd (cs := #[.string a0_0, .int .i64 a0_1, .string a0_2]) (t := 47) ?hr ?_; (case hd => rfl); (case hg => rfl); (case hr => first | (go_simp; done) | (go_simp; rfl)); intro gb102 hg w10 hbox hb; have n0_ := Aside0.mk (qAe (by repeat (first | (with_reducible first | exact HB.out | apply qAb | apply qAa | apply qAc) | exact HB.out)) hb); have n1_ := Aside0.mk (hbox); have n2_ := Aside0.mk ((by rw [hg]; exact (qAo (by repeat (first | (with_reducible first | exact HB.out | apply qAb | apply qAa | apply qAc) | exact HB.out))) : w.heap.size ≤ gb102)); have n3_ := Aside0.mk ((by rw [hg]; exact (qAo (by repeat (first | (with_reducible first | exact HB.out | apply qAb | apply qAa | apply qAc) | exact HB.out))) : w.heap.size ≤ gb102)); clear HB; have HB := n0_; have BK102 := n1_; have GW102 := n2_; have GE102 := n3_; clear n0_ n1_ n2_ n3_; clear hb hbox hg; have hcz11_0 : w10.cell? ⟨gb102, 0, none⟩ = some (.string a0_0) := (qAd BK102.out 0).trans rfl; have hcz11_1 : w10.cell? ⟨gb102, 1, none⟩ = some (.int .i64 a0_1) := (qAd BK102.out 1).trans rfl; have hcz11_2 : w10.cell? ⟨gb102, 2, none⟩ = some (.string a0_2) := (qAd BK102.out 2).trans rfl; have hfz11_0 := qAf BK102.out 0; have hfz11_1 := qAf BK102.out 1; have hfz11_2 := qAf BK102.out 2) | ((with_reducible refine qAs (f := 61) rfl ?_); refine goesL_ (some 6) rfl rfl Tryz.func61 (by kernel_rfl) rfl #[.agg #[.string a0_0, .int .i64 a0_1, .string a0_2]] rfl (by (try simp only [List.map_toArray, List.map_cons, List.map_nil]); first | done | rfl | (simp only [List.length_drop, List.length_take]; rfl)) ?_; (with_reducible refine (tar_name.calls a0_0 a0_1 a0_2 t103 _ A2.out).mono ?_); rintro e w12 ⟨rfl, hb⟩; refine ⟨_, rfl, ?_⟩; have n0_ := Aside0.mk (qAg (g := gb102) (o := .cells #[.string a0_0, .int .i64 a0_1, .string a0_2] 47 (0, 0)) (by (with_reducible repeat (first | refine blk_drewN ?_ _ | refine blk_drew ?_ | refine qAn ?_ _)); exact BK102.out) hb); have n1_ := Aside0.mk (qAe (by repeat (first | (with_reducible first | exact HB.out | apply qAb | apply qAa | apply qAc | refine below_set ?_ GE102.out) | exact HB.out)) hb); clear BK102; clear HB; have BK102 := n0_; have HB := n1_; clear n0_ n1_; (try clear hb); (try clear hb2); (try clear hk); (try clear hi)) | ((with_reducible refine qAs (f := 14) rfl ?_); refine goesL_ (some 12) rfl rfl Tryz.func14 (by kernel_rfl) rfl #[.string (⟨#[112, 97, 116, 104]⟩ : ByteArray), .string t103] rfl (by (try simp only [List.map_toArray, List.map_cons, List.map_nil]); first | done | rfl | (simp only [List.length_drop, List.length_take]; rfl)) ?_; (with_reducible refine (tar_Record.calls (⟨#[112, 97, 116, 104]⟩ : ByteArray) t103 t104 _ ?side1 A4.out).mono ?_); (case side1 => exact ⟨Tabs.below hT.out (by repeat (first | (with_reducible first | exact HB.out | apply qAb | apply qAa | apply qAc | refine below_set ?_ GE102.out) | exact HB.out))⟩); rintro e w13 ⟨rfl, hb⟩; refine ⟨_, rfl, ?_⟩; have n0_ := Aside0.mk (qAg (g := gb102) (o := .cells #[.string a0_0, .int .i64 a0_1, .string a0_2] 47 (0, 0)) (by (with_reducible repeat (first | refine blk_drewN ?_ _ | refine blk_drew ?_ | refine qAn ?_ _)); exact BK102.out) hb); have n1_ := Aside0.mk (qAe (by repeat (first | (with_reducible first | exact HB.out | apply qAb | apply qAa | apply qAc | refine below_set ?_ GE102.out) | exact HB.out)) hb); clear BK102; clear HB; have BK102 := n0_; have HB := n1_; clear n0_ n1_; (try clear hb); (try clear hb2); (try clear hk); (try clear hi); have hcz14_0 : w13.cell? ⟨gb102, 0, none⟩ = some (.string a0_0) := (qAd BK102.out 0).trans rfl; have hcz14_1 : w13.cell? ⟨gb102, 1, none⟩ = some (.int .i64 a0_1) := (qAd BK102.out 1).trans rfl; have hcz14_2 : w13.cell? ⟨gb102, 2, none⟩ = some (.string a0_2) := (qAd BK102.out 2).trans rfl; have hfz14_0 := qAf BK102.out 0; have hfz14_1 := qAf BK102.out 1; have hfz14_2 := qAf BK102.out 2) | ((with_reducible refine qAs (f := 14) rfl ?_); refine goesL_ (some 26) rfl rfl Tryz.func14 (by kernel_rfl) rfl #[.string (⟨#[108, 105, 110, 107, 112, 97, 116, 104]⟩ : ByteArray), .string a0_2] rfl (by (try simp only [List.map_toArray, List.map_cons, List.map_nil]); first | done | rfl | (simp only [List.length_drop, List.length_take]; rfl)) ?_; (with_reducible refine (tar_Record.calls (⟨#[108, 105, 110, 107, 112, 97, 116, 104]⟩ : ByteArray) a0_2 t105 _ ?side1 A8.out).mono ?_); (case side1 => exact ⟨Tabs.below hT.out (by repeat (first | (with_reducible first | exact HB.out | apply qAb | apply qAa | apply qAc | refine below_set ?_ GE102.out) | exact HB.out))⟩); rintro e w15 ⟨rfl, hb⟩; refine ⟨_, rfl, ?_⟩; have n0_ := Aside0.mk (qAg (g := gb102) (o := .cells #[.string a0_0, .int .i64 a0_1, .string a0_2] 47 (0, 0)) (by (with_reducible repeat (first | refine blk_drewN ?_ _ | refine blk_drew ?_ | refine qAn ?_ _)); exact BK102.out) hb); have n1_ := Aside0.mk (qAe (by repeat (first | (with_reducible first | exact HB.out | apply qAb | apply qAa | apply qAc | refine below_set ?_ GE102.out) | exact HB.out)) hb); clear BK102; clear HB; have BK102 := n0_; have HB := n1_; clear n0_ n1_; (try clear hb); (try clear hb2); (try clear hk); (try clear hi)))
      try any_goals (exfalso; have h_ := Sc5.out; rename_i hb_; (try simp only [ByteArray.size_extract, ByteArray.size_append] at h_ hb_); (try simp only [ByteArray.size, List.size_toArray, List.length_cons, List.length_nil] at h_ hb_); omega)
      try any_goals (exfalso; have h_ := Sc9.out; rename_i hb_; (try simp only [ByteArray.size_extract, ByteArray.size_append] at h_ hb_); (try simp only [ByteArray.size, List.size_toArray, List.length_cons, List.length_nil] at h_ hb_); omega)
      go_ret
      exact ⟨by first | rfl | (simp [qAj, qAi] <;> rfl) | (simp [*, qAj, qAi] <;> rfl), by repeat (first | (with_reducible first | exact HB.out | apply qAb | apply qAa | apply qAc | refine below_set ?_ GE102.out) | exact HB.out)⟩
     ·rw [if_neg c9] at H
      exact absurd H (by simp)
    ·rw [if_neg c7] at H
     have c7b0 : decide (100 < (a0_2.size : Int)) = false := decide_eq_false c7
     have c7b1 : decide (100 < a0_2.size) = false := decide_eq_false (by omega)
     clear c7
     obtain rfl := Option.some.inj H
     go_enter Tryz.func58, Tryz.ntmps58
     go_wp2_with (first | ((with_reducible refine qBr (N := 1) rfl ?_); (try (refine qBk (by rfl) ?_; dsimp only)); refine qBf ?hg (N := 1) ?hd (cs := #[.string a0_0, .int .i64 a0_1, .string a0_2]) (t := 47) ?hr ?_; (case hd => rfl); (case hg => rfl); (case hr => first | (go_simp; done) | (go_simp; rfl)); intro gb102 hg w16 hbox hb; have n0_ := Aside0.mk (qAe (by repeat (first | (with_reducible first | exact HB.out | apply qAb | apply qAa | apply qAc) | exact HB.out)) hb); have n1_ := Aside0.mk (hbox); have n2_ := Aside0.mk ((by rw [hg]; exact (qAo (by repeat (first | (with_reducible first | exact HB.out | apply qAb | apply qAa | apply qAc) | exact HB.out))) : w.heap.size ≤ gb102)); have n3_ := Aside0.mk ((by rw [hg]; exact (qAo (by repeat (first | (with_reducible first | exact HB.out | apply qAb | apply qAa | apply qAc) | exact HB.out))) : w.heap.size ≤ gb102)); clear HB; have HB := n0_; have BK102 := n1_; have GW102 := n2_; have GE102 := n3_; clear n0_ n1_ n2_ n3_; clear hb hbox hg; have hcz17_0 : w16.cell? ⟨gb102, 0, none⟩ = some (.string a0_0) := (qAd BK102.out 0).trans rfl; have hcz17_1 : w16.cell? ⟨gb102, 1, none⟩ = some (.int .i64 a0_1) := (qAd BK102.out 1).trans rfl; have hcz17_2 : w16.cell? ⟨gb102, 2, none⟩ = some (.string a0_2) := (qAd BK102.out 2).trans rfl; have hfz17_0 := qAf BK102.out 0; have hfz17_1 := qAf BK102.out 1; have hfz17_2 := qAf BK102.out 2) | ((with_reducible refine qAs (f := 61) rfl ?_); refine goesL_ (some 6) rfl rfl Tryz.func61 (by kernel_rfl) rfl #[.agg #[.string a0_0, .int .i64 a0_1, .string a0_2]] rfl (by (try simp only [List.map_toArray, List.map_cons, List.map_nil]); first | done | rfl | (simp only [List.length_drop, List.length_take]; rfl)) ?_; (with_reducible refine (tar_name.calls a0_0 a0_1 a0_2 t103 _ A2.out).mono ?_); rintro e w18 ⟨rfl, hb⟩; refine ⟨_, rfl, ?_⟩; have n0_ := Aside0.mk (qAg (g := gb102) (o := .cells #[.string a0_0, .int .i64 a0_1, .string a0_2] 47 (0, 0)) (by (with_reducible repeat (first | refine blk_drewN ?_ _ | refine blk_drew ?_ | refine qAn ?_ _)); exact BK102.out) hb); have n1_ := Aside0.mk (qAe (by repeat (first | (with_reducible first | exact HB.out | apply qAb | apply qAa | apply qAc | refine below_set ?_ GE102.out) | exact HB.out)) hb); clear BK102; clear HB; have BK102 := n0_; have HB := n1_; clear n0_ n1_; (try clear hb); (try clear hb2); (try clear hk); (try clear hi)) | ((with_reducible refine qAs (f := 14) rfl ?_); refine goesL_ (some 12) rfl rfl Tryz.func14 (by kernel_rfl) rfl #[.string (⟨#[112, 97, 116, 104]⟩ : ByteArray), .string t103] rfl (by (try simp only [List.map_toArray, List.map_cons, List.map_nil]); first | done | rfl | (simp only [List.length_drop, List.length_take]; rfl)) ?_; (with_reducible refine (tar_Record.calls (⟨#[112, 97, 116, 104]⟩ : ByteArray) t103 t104 _ ?side1 A4.out).mono ?_); (case side1 => exact ⟨Tabs.below hT.out (by repeat (first | (with_reducible first | exact HB.out | apply qAb | apply qAa | apply qAc | refine below_set ?_ GE102.out) | exact HB.out))⟩); rintro e w19 ⟨rfl, hb⟩; refine ⟨_, rfl, ?_⟩; have n0_ := Aside0.mk (qAg (g := gb102) (o := .cells #[.string a0_0, .int .i64 a0_1, .string a0_2] 47 (0, 0)) (by (with_reducible repeat (first | refine blk_drewN ?_ _ | refine blk_drew ?_ | refine qAn ?_ _)); exact BK102.out) hb); have n1_ := Aside0.mk (qAe (by repeat (first | (with_reducible first | exact HB.out | apply qAb | apply qAa | apply qAc | refine below_set ?_ GE102.out) | exact HB.out)) hb); clear BK102; clear HB; have BK102 := n0_; have HB := n1_; clear n0_ n1_; (try clear hb); (try clear hb2); (try clear hk); (try clear hi); have hcz20_0 : w19.cell? ⟨gb102, 0, none⟩ = some (.string a0_0) := (qAd BK102.out 0).trans rfl; have hcz20_1 : w19.cell? ⟨gb102, 1, none⟩ = some (.int .i64 a0_1) := (qAd BK102.out 1).trans rfl; have hcz20_2 : w19.cell? ⟨gb102, 2, none⟩ = some (.string a0_2) := (qAd BK102.out 2).trans rfl; have hfz20_0 := qAf BK102.out 0; have hfz20_1 := qAf BK102.out 1; have hfz20_2 := qAf BK102.out 2))
     try any_goals (exfalso; have h_ := Sc5.out; rename_i hb_; (try simp only [ByteArray.size_extract, ByteArray.size_append] at h_ hb_); (try simp only [ByteArray.size, List.size_toArray, List.length_cons, List.length_nil] at h_ hb_); omega)
     go_ret
     exact ⟨by first | rfl | (simp [qAj, qAi] <;> rfl) | (simp [*, qAj, qAi] <;> rfl), by repeat (first | (with_reducible first | exact HB.out | apply qAb | apply qAa | apply qAc | refine below_set ?_ GE102.out) | exact HB.out)⟩
   ·rw [if_neg c6] at H
    have c6b0 : (a0_1 == 4) = false := beq_eq_false_iff_ne.mpr c6
    have c6b1 : (a0_1 != 4) = true := bne_iff_ne.mpr c6
    obtain rfl := Option.some.inj H
    go_enter Tryz.func58, Tryz.ntmps58
    go_wp2_with (first | ((with_reducible refine qBr (N := 1) rfl ?_); (try (refine qBk (by rfl) ?_; dsimp only)); refine qBf ?hg (N := 1) ?hd (cs := #[.string a0_0, .int .i64 a0_1, .string a0_2]) (t := 47) ?hr ?_; (case hd => rfl); (case hg => rfl); (case hr => first | (go_simp; done) | (go_simp; rfl)); intro gb102 hg w21 hbox hb; have n0_ := Aside0.mk (qAe (by repeat (first | (with_reducible first | exact HB.out | apply qAb | apply qAa | apply qAc) | exact HB.out)) hb); have n1_ := Aside0.mk (hbox); have n2_ := Aside0.mk ((by rw [hg]; exact (qAo (by repeat (first | (with_reducible first | exact HB.out | apply qAb | apply qAa | apply qAc) | exact HB.out))) : w.heap.size ≤ gb102)); have n3_ := Aside0.mk ((by rw [hg]; exact (qAo (by repeat (first | (with_reducible first | exact HB.out | apply qAb | apply qAa | apply qAc) | exact HB.out))) : w.heap.size ≤ gb102)); clear HB; have HB := n0_; have BK102 := n1_; have GW102 := n2_; have GE102 := n3_; clear n0_ n1_ n2_ n3_; clear hb hbox hg; have hcz22_0 : w21.cell? ⟨gb102, 0, none⟩ = some (.string a0_0) := (qAd BK102.out 0).trans rfl; have hcz22_1 : w21.cell? ⟨gb102, 1, none⟩ = some (.int .i64 a0_1) := (qAd BK102.out 1).trans rfl; have hcz22_2 : w21.cell? ⟨gb102, 2, none⟩ = some (.string a0_2) := (qAd BK102.out 2).trans rfl; have hfz22_0 := qAf BK102.out 0; have hfz22_1 := qAf BK102.out 1; have hfz22_2 := qAf BK102.out 2) | ((with_reducible refine qAs (f := 61) rfl ?_); refine goesL_ (some 6) rfl rfl Tryz.func61 (by kernel_rfl) rfl #[.agg #[.string a0_0, .int .i64 a0_1, .string a0_2]] rfl (by (try simp only [List.map_toArray, List.map_cons, List.map_nil]); first | done | rfl | (simp only [List.length_drop, List.length_take]; rfl)) ?_; (with_reducible refine (tar_name.calls a0_0 a0_1 a0_2 t103 _ A2.out).mono ?_); rintro e w23 ⟨rfl, hb⟩; refine ⟨_, rfl, ?_⟩; have n0_ := Aside0.mk (qAg (g := gb102) (o := .cells #[.string a0_0, .int .i64 a0_1, .string a0_2] 47 (0, 0)) (by (with_reducible repeat (first | refine blk_drewN ?_ _ | refine blk_drew ?_ | refine qAn ?_ _)); exact BK102.out) hb); have n1_ := Aside0.mk (qAe (by repeat (first | (with_reducible first | exact HB.out | apply qAb | apply qAa | apply qAc | refine below_set ?_ GE102.out) | exact HB.out)) hb); clear BK102; clear HB; have BK102 := n0_; have HB := n1_; clear n0_ n1_; (try clear hb); (try clear hb2); (try clear hk); (try clear hi)) | ((with_reducible refine qAs (f := 14) rfl ?_); refine goesL_ (some 12) rfl rfl Tryz.func14 (by kernel_rfl) rfl #[.string (⟨#[112, 97, 116, 104]⟩ : ByteArray), .string t103] rfl (by (try simp only [List.map_toArray, List.map_cons, List.map_nil]); first | done | rfl | (simp only [List.length_drop, List.length_take]; rfl)) ?_; (with_reducible refine (tar_Record.calls (⟨#[112, 97, 116, 104]⟩ : ByteArray) t103 t104 _ ?side1 A4.out).mono ?_); (case side1 => exact ⟨Tabs.below hT.out (by repeat (first | (with_reducible first | exact HB.out | apply qAb | apply qAa | apply qAc | refine below_set ?_ GE102.out) | exact HB.out))⟩); rintro e w24 ⟨rfl, hb⟩; refine ⟨_, rfl, ?_⟩; have n0_ := Aside0.mk (qAg (g := gb102) (o := .cells #[.string a0_0, .int .i64 a0_1, .string a0_2] 47 (0, 0)) (by (with_reducible repeat (first | refine blk_drewN ?_ _ | refine blk_drew ?_ | refine qAn ?_ _)); exact BK102.out) hb); have n1_ := Aside0.mk (qAe (by repeat (first | (with_reducible first | exact HB.out | apply qAb | apply qAa | apply qAc | refine below_set ?_ GE102.out) | exact HB.out)) hb); clear BK102; clear HB; have BK102 := n0_; have HB := n1_; clear n0_ n1_; (try clear hb); (try clear hb2); (try clear hk); (try clear hi); have hcz25_0 : w24.cell? ⟨gb102, 0, none⟩ = some (.string a0_0) := (qAd BK102.out 0).trans rfl; have hcz25_1 : w24.cell? ⟨gb102, 1, none⟩ = some (.int .i64 a0_1) := (qAd BK102.out 1).trans rfl; have hcz25_2 : w24.cell? ⟨gb102, 2, none⟩ = some (.string a0_2) := (qAd BK102.out 2).trans rfl; have hfz25_0 := qAf BK102.out 0; have hfz25_1 := qAf BK102.out 1; have hfz25_2 := qAf BK102.out 2))
    try any_goals (exfalso; have h_ := Sc5.out; rename_i hb_; (try simp only [ByteArray.size_extract, ByteArray.size_append] at h_ hb_); (try simp only [ByteArray.size, List.size_toArray, List.length_cons, List.length_nil] at h_ hb_); omega)
    go_ret
    exact ⟨by first | rfl | (simp [qAj, qAi] <;> rfl) | (simp [*, qAj, qAi] <;> rfl), by repeat (first | (with_reducible first | exact HB.out | apply qAb | apply qAa | apply qAc | refine below_set ?_ GE102.out) | exact HB.out)⟩
  ·rw [if_neg c5] at H
   exact absurd H (by simp)
 ·rw [if_neg c3] at H
  have c3b0 : decide (100 < (t103.size : Int)) = false := decide_eq_false c3
  have c3b1 : decide (100 < t103.size) = false := decide_eq_false (by omega)
  clear c3
  by_cases c26 : a0_1 = 4
  ·rw [if_pos c26] at H
   have c26b0 : (a0_1 == 4) = true := beq_iff_eq.mpr c26
   have c26b1 : (a0_1 != 4) = false := bne_eq_false_iff_eq.mpr c26
   clear c26
   by_cases c27 : (a0_2.size : Int) > 100
   ·rw [if_pos c27] at H
    have c27b0 : decide (100 < (a0_2.size : Int)) = true := decide_eq_true c27
    have c27b1 : decide (100 < a0_2.size) = true := decide_eq_true (by omega)
    clear c27
    replace H := Option.bind_eq_some_iff.mp H
    obtain ⟨t106, A280, H⟩ := H
    replace H : (if 0 + t106.size ≤ 9223372036854775807 then (some ((⟨#[]⟩ : ByteArray) ++ t106)) else (none)) = some r := H
    have A28 := Aside0.mk A280
    clear A280
    by_cases c29 : 0 + t106.size ≤ 9223372036854775807
    ·rw [if_pos c29] at H
     have c29b0 := eq_true c29
     have c29b1 : decide (0 + t106.size ≤ 9223372036854775807) = true := decide_eq_true c29
     try have c29b2 : (9223372036854775807 < 0 + t106.size) = False := eq_false (Nat.not_lt.2 c29)
     have Sc29 := Aside0.mk c29
     clear c29
     obtain rfl := Option.some.inj H
     go_enter Tryz.func58, Tryz.ntmps58
     go_wp2_with (first | ((with_reducible refine qBr (N := 1) rfl ?_); (try (refine qBk (by rfl) ?_; dsimp only)); refine qBf ?hg (N := 1) ?hd (cs := #[.string a0_0, .int .i64 a0_1, .string a0_2]) (t := 47) ?hr ?_; (case hd => rfl); (case hg => rfl); (case hr => first | (go_simp; done) | (go_simp; rfl)); intro gb102 hg w30 hbox hb; have n0_ := Aside0.mk (qAe (by repeat (first | (with_reducible first | exact HB.out | apply qAb | apply qAa | apply qAc) | exact HB.out)) hb); have n1_ := Aside0.mk (hbox); have n2_ := Aside0.mk ((by rw [hg]; exact (qAo (by repeat (first | (with_reducible first | exact HB.out | apply qAb | apply qAa | apply qAc) | exact HB.out))) : w.heap.size ≤ gb102)); have n3_ := Aside0.mk ((by rw [hg]; exact (qAo (by repeat (first | (with_reducible first | exact HB.out | apply qAb | apply qAa | apply qAc) | exact HB.out))) : w.heap.size ≤ gb102)); clear HB; have HB := n0_; have BK102 := n1_; have GW102 := n2_; have GE102 := n3_; clear n0_ n1_ n2_ n3_; clear hb hbox hg; have hcz31_0 : w30.cell? ⟨gb102, 0, none⟩ = some (.string a0_0) := (qAd BK102.out 0).trans rfl; have hcz31_1 : w30.cell? ⟨gb102, 1, none⟩ = some (.int .i64 a0_1) := (qAd BK102.out 1).trans rfl; have hcz31_2 : w30.cell? ⟨gb102, 2, none⟩ = some (.string a0_2) := (qAd BK102.out 2).trans rfl; have hfz31_0 := qAf BK102.out 0; have hfz31_1 := qAf BK102.out 1; have hfz31_2 := qAf BK102.out 2) | ((with_reducible refine qAs (f := 61) rfl ?_); refine goesL_ (some 6) rfl rfl Tryz.func61 (by kernel_rfl) rfl #[.agg #[.string a0_0, .int .i64 a0_1, .string a0_2]] rfl (by (try simp only [List.map_toArray, List.map_cons, List.map_nil]); first | done | rfl | (simp only [List.length_drop, List.length_take]; rfl)) ?_; (with_reducible refine (tar_name.calls a0_0 a0_1 a0_2 t103 _ A2.out).mono ?_); rintro e w32 ⟨rfl, hb⟩; refine ⟨_, rfl, ?_⟩; have n0_ := Aside0.mk (qAg (g := gb102) (o := .cells #[.string a0_0, .int .i64 a0_1, .string a0_2] 47 (0, 0)) (by (with_reducible repeat (first | refine blk_drewN ?_ _ | refine blk_drew ?_ | refine qAn ?_ _)); exact BK102.out) hb); have n1_ := Aside0.mk (qAe (by repeat (first | (with_reducible first | exact HB.out | apply qAb | apply qAa | apply qAc | refine below_set ?_ GE102.out) | exact HB.out)) hb); clear BK102; clear HB; have BK102 := n0_; have HB := n1_; clear n0_ n1_; (try clear hb); (try clear hb2); (try clear hk); (try clear hi); have hcz33_0 : w32.cell? ⟨gb102, 0, none⟩ = some (.string a0_0) := (qAd BK102.out 0).trans rfl; have hcz33_1 : w32.cell? ⟨gb102, 1, none⟩ = some (.int .i64 a0_1) := (qAd BK102.out 1).trans rfl; have hcz33_2 : w32.cell? ⟨gb102, 2, none⟩ = some (.string a0_2) := (qAd BK102.out 2).trans rfl; have hfz33_0 := qAf BK102.out 0; have hfz33_1 := qAf BK102.out 1; have hfz33_2 := qAf BK102.out 2) | ((with_reducible refine qAs (f := 14) rfl ?_); refine goesL_ (some 26) rfl rfl Tryz.func14 (by kernel_rfl) rfl #[.string (⟨#[108, 105, 110, 107, 112, 97, 116, 104]⟩ : ByteArray), .string a0_2] rfl (by (try simp only [List.map_toArray, List.map_cons, List.map_nil]); first | done | rfl | (simp only [List.length_drop, List.length_take]; rfl)) ?_; (with_reducible refine (tar_Record.calls (⟨#[108, 105, 110, 107, 112, 97, 116, 104]⟩ : ByteArray) a0_2 t106 _ ?side1 A28.out).mono ?_); (case side1 => exact ⟨Tabs.below hT.out (by repeat (first | (with_reducible first | exact HB.out | apply qAb | apply qAa | apply qAc | refine below_set ?_ GE102.out) | exact HB.out))⟩); rintro e w34 ⟨rfl, hb⟩; refine ⟨_, rfl, ?_⟩; have n0_ := Aside0.mk (qAg (g := gb102) (o := .cells #[.string a0_0, .int .i64 a0_1, .string a0_2] 47 (0, 0)) (by (with_reducible repeat (first | refine blk_drewN ?_ _ | refine blk_drew ?_ | refine qAn ?_ _)); exact BK102.out) hb); have n1_ := Aside0.mk (qAe (by repeat (first | (with_reducible first | exact HB.out | apply qAb | apply qAa | apply qAc | refine below_set ?_ GE102.out) | exact HB.out)) hb); clear BK102; clear HB; have BK102 := n0_; have HB := n1_; clear n0_ n1_; (try clear hb); (try clear hb2); (try clear hk); (try clear hi)))
     try any_goals (exfalso; have h_ := Sc29.out; rename_i hb_; (try simp only [ByteArray.size_extract, ByteArray.size_append] at h_ hb_); (try simp only [ByteArray.size, List.size_toArray, List.length_cons, List.length_nil] at h_ hb_); omega)
     go_ret
     exact ⟨by first | rfl | (simp [qAj, qAi] <;> rfl) | (simp [*, qAj, qAi] <;> rfl), by repeat (first | (with_reducible first | exact HB.out | apply qAb | apply qAa | apply qAc | refine below_set ?_ GE102.out) | exact HB.out)⟩
    ·rw [if_neg c29] at H
     exact absurd H (by simp)
   ·rw [if_neg c27] at H
    have c27b0 : decide (100 < (a0_2.size : Int)) = false := decide_eq_false c27
    have c27b1 : decide (100 < a0_2.size) = false := decide_eq_false (by omega)
    clear c27
    obtain rfl := Option.some.inj H
    go_enter Tryz.func58, Tryz.ntmps58
    go_wp2_with (first | ((with_reducible refine qBr (N := 1) rfl ?_); (try (refine qBk (by rfl) ?_; dsimp only)); refine qBf ?hg (N := 1) ?hd (cs := #[.string a0_0, .int .i64 a0_1, .string a0_2]) (t := 47) ?hr ?_; (case hd => rfl); (case hg => rfl); (case hr => first | (go_simp; done) | (go_simp; rfl)); intro gb102 hg w35 hbox hb; have n0_ := Aside0.mk (qAe (by repeat (first | (with_reducible first | exact HB.out | apply qAb | apply qAa | apply qAc) | exact HB.out)) hb); have n1_ := Aside0.mk (hbox); have n2_ := Aside0.mk ((by rw [hg]; exact (qAo (by repeat (first | (with_reducible first | exact HB.out | apply qAb | apply qAa | apply qAc) | exact HB.out))) : w.heap.size ≤ gb102)); have n3_ := Aside0.mk ((by rw [hg]; exact (qAo (by repeat (first | (with_reducible first | exact HB.out | apply qAb | apply qAa | apply qAc) | exact HB.out))) : w.heap.size ≤ gb102)); clear HB; have HB := n0_; have BK102 := n1_; have GW102 := n2_; have GE102 := n3_; clear n0_ n1_ n2_ n3_; clear hb hbox hg; have hcz36_0 : w35.cell? ⟨gb102, 0, none⟩ = some (.string a0_0) := (qAd BK102.out 0).trans rfl; have hcz36_1 : w35.cell? ⟨gb102, 1, none⟩ = some (.int .i64 a0_1) := (qAd BK102.out 1).trans rfl; have hcz36_2 : w35.cell? ⟨gb102, 2, none⟩ = some (.string a0_2) := (qAd BK102.out 2).trans rfl; have hfz36_0 := qAf BK102.out 0; have hfz36_1 := qAf BK102.out 1; have hfz36_2 := qAf BK102.out 2) | ((with_reducible refine qAs (f := 61) rfl ?_); refine goesL_ (some 6) rfl rfl Tryz.func61 (by kernel_rfl) rfl #[.agg #[.string a0_0, .int .i64 a0_1, .string a0_2]] rfl (by (try simp only [List.map_toArray, List.map_cons, List.map_nil]); first | done | rfl | (simp only [List.length_drop, List.length_take]; rfl)) ?_; (with_reducible refine (tar_name.calls a0_0 a0_1 a0_2 t103 _ A2.out).mono ?_); rintro e w37 ⟨rfl, hb⟩; refine ⟨_, rfl, ?_⟩; have n0_ := Aside0.mk (qAg (g := gb102) (o := .cells #[.string a0_0, .int .i64 a0_1, .string a0_2] 47 (0, 0)) (by (with_reducible repeat (first | refine blk_drewN ?_ _ | refine blk_drew ?_ | refine qAn ?_ _)); exact BK102.out) hb); have n1_ := Aside0.mk (qAe (by repeat (first | (with_reducible first | exact HB.out | apply qAb | apply qAa | apply qAc | refine below_set ?_ GE102.out) | exact HB.out)) hb); clear BK102; clear HB; have BK102 := n0_; have HB := n1_; clear n0_ n1_; (try clear hb); (try clear hb2); (try clear hk); (try clear hi); have hcz38_0 : w37.cell? ⟨gb102, 0, none⟩ = some (.string a0_0) := (qAd BK102.out 0).trans rfl; have hcz38_1 : w37.cell? ⟨gb102, 1, none⟩ = some (.int .i64 a0_1) := (qAd BK102.out 1).trans rfl; have hcz38_2 : w37.cell? ⟨gb102, 2, none⟩ = some (.string a0_2) := (qAd BK102.out 2).trans rfl; have hfz38_0 := qAf BK102.out 0; have hfz38_1 := qAf BK102.out 1; have hfz38_2 := qAf BK102.out 2))
    go_ret
    exact ⟨by first | rfl | (simp [qAj, qAi] <;> rfl) | (simp [*, qAj, qAi] <;> rfl), by repeat (first | (with_reducible first | exact HB.out | apply qAb | apply qAa | apply qAc | refine below_set ?_ GE102.out) | exact HB.out)⟩
  ·rw [if_neg c26] at H
   have c26b0 : (a0_1 == 4) = false := beq_eq_false_iff_ne.mpr c26
   have c26b1 : (a0_1 != 4) = true := bne_iff_ne.mpr c26
   obtain rfl := Option.some.inj H
   go_enter Tryz.func58, Tryz.ntmps58
   go_wp2_with (first | ((with_reducible refine qBr (N := 1) rfl ?_); (try (refine qBk (by rfl) ?_; dsimp only)); refine qBf ?hg (N := 1) ?hd (cs := #[.string a0_0, .int .i64 a0_1, .string a0_2]) (t := 47) ?hr ?_; (case hd => rfl); (case hg => rfl); (case hr => first | (go_simp; done) | (go_simp; rfl)); intro gb102 hg w39 hbox hb; have n0_ := Aside0.mk (qAe (by repeat (first | (with_reducible first | exact HB.out | apply qAb | apply qAa | apply qAc) | exact HB.out)) hb); have n1_ := Aside0.mk (hbox); have n2_ := Aside0.mk ((by rw [hg]; exact (qAo (by repeat (first | (with_reducible first | exact HB.out | apply qAb | apply qAa | apply qAc) | exact HB.out))) : w.heap.size ≤ gb102)); have n3_ := Aside0.mk ((by rw [hg]; exact (qAo (by repeat (first | (with_reducible first | exact HB.out | apply qAb | apply qAa | apply qAc) | exact HB.out))) : w.heap.size ≤ gb102)); clear HB; have HB := n0_; have BK102 := n1_; have GW102 := n2_; have GE102 := n3_; clear n0_ n1_ n2_ n3_; clear hb hbox hg; have hcz40_0 : w39.cell? ⟨gb102, 0, none⟩ = some (.string a0_0) := (qAd BK102.out 0).trans rfl; have hcz40_1 : w39.cell? ⟨gb102, 1, none⟩ = some (.int .i64 a0_1) := (qAd BK102.out 1).trans rfl; have hcz40_2 : w39.cell? ⟨gb102, 2, none⟩ = some (.string a0_2) := (qAd BK102.out 2).trans rfl; have hfz40_0 := qAf BK102.out 0; have hfz40_1 := qAf BK102.out 1; have hfz40_2 := qAf BK102.out 2) | ((with_reducible refine qAs (f := 61) rfl ?_); refine goesL_ (some 6) rfl rfl Tryz.func61 (by kernel_rfl) rfl #[.agg #[.string a0_0, .int .i64 a0_1, .string a0_2]] rfl (by (try simp only [List.map_toArray, List.map_cons, List.map_nil]); first | done | rfl | (simp only [List.length_drop, List.length_take]; rfl)) ?_; (with_reducible refine (tar_name.calls a0_0 a0_1 a0_2 t103 _ A2.out).mono ?_); rintro e w41 ⟨rfl, hb⟩; refine ⟨_, rfl, ?_⟩; have n0_ := Aside0.mk (qAg (g := gb102) (o := .cells #[.string a0_0, .int .i64 a0_1, .string a0_2] 47 (0, 0)) (by (with_reducible repeat (first | refine blk_drewN ?_ _ | refine blk_drew ?_ | refine qAn ?_ _)); exact BK102.out) hb); have n1_ := Aside0.mk (qAe (by repeat (first | (with_reducible first | exact HB.out | apply qAb | apply qAa | apply qAc | refine below_set ?_ GE102.out) | exact HB.out)) hb); clear BK102; clear HB; have BK102 := n0_; have HB := n1_; clear n0_ n1_; (try clear hb); (try clear hb2); (try clear hk); (try clear hi); have hcz42_0 : w41.cell? ⟨gb102, 0, none⟩ = some (.string a0_0) := (qAd BK102.out 0).trans rfl; have hcz42_1 : w41.cell? ⟨gb102, 1, none⟩ = some (.int .i64 a0_1) := (qAd BK102.out 1).trans rfl; have hcz42_2 : w41.cell? ⟨gb102, 2, none⟩ = some (.string a0_2) := (qAd BK102.out 2).trans rfl; have hfz42_0 := qAf BK102.out 0; have hfz42_1 := qAf BK102.out 1; have hfz42_2 := qAf BK102.out 2))
   go_ret
   exact ⟨by first | rfl | (simp [qAj, qAi] <;> rfl) | (simp [*, qAj, qAi] <;> rfl), by repeat (first | (with_reducible first | exact HB.out | apply qAb | apply qAa | apply qAc | refine below_set ?_ GE102.out) | exact HB.out)⟩
end Go.Proofs.YtdijnmcfpbceaaaGreatDoor.P

namespace Go.Proofs.YtdijnmcfpbceaaaGreatDoor.P
open Go.Proofs.YtdijnmcfpbceaaaGreatDoor.X
open Go.RowKit Go.Proofs.YtdijnmcfpbceaaaGreatDoorW.PrintWords Go.Proofs.YtdijnmcfpbceaaaGreatDoorW.PrintLast Go.Proofs.YtdijnmcfpbceaaaGreatDoorW.PrintMore
attribute [local go_sem] qAr qAu
set_option linter.unusedVariables false
set_option linter.unusedSimpArgs false
def tar_cut.f (a0 : ByteArray) : Option (ByteArray) := if 0 ≤ (mn (a0.size : Int) 100) then (if (mn (a0.size : Int) 100) ≤ (a0.size : Int) then (some (a0.extract 0 ((mn (a0.size : Int) 100) : Int).toNat)) else (none)) else (none)
set_option maxHeartbeats 8000000 in
set_option maxRecDepth 100000 in
theorem tar_cut.calls (a0 : ByteArray) (r : ByteArray) (w : World) (h : tar_cut.f a0 = some r) :
  Calls Tryz.prog 60 #[.string a0] w fun e w' => e = .returned (.string r) ∧ Below w.heap.size w w' := by
 have HB := Aside0.mk (Below.refl w.heap.size w)
 have H : (if 0 ≤ (mn (a0.size : Int) 100) then (if (mn (a0.size : Int) 100) ≤ (a0.size : Int) then (some (a0.extract 0 ((mn (a0.size : Int) 100) : Int).toNat)) else (none)) else (none)) = some r := h
 clear h
 obtain ⟨ji2, hji2⟩ : ∃ j_ : Int, (mn (a0.size : Int) 100) = j_ := ⟨_, rfl⟩
 replace H : (if 0 ≤ (ji2) then (if (ji2) ≤ (a0.size : Int) then (some (a0.extract 0 ((ji2) : Int).toNat)) else (none)) else (none)) = some r := by first | (rw [hji2] at H; exact H) | (simp only [hji2] at H ⊢; exact H)
 (try (have hji2h : ji2 ≤ 100 := by (rw [← hji2]; unfold mn; (repeat' split) <;> omega)))
 (try (have hji2g : ji2 ≤ 64 := by omega))
 (try (have hji2l : 0 ≤ ji2 := by (rw [← hji2]; unfold mn; (repeat' split) <;> omega)))
 (try (have hji2m : 0 ≤ ji2 := by omega))
 have hji2_ : (if 100 < (a0.size : Int) then 100 else (a0.size : Int)) = ji2 := hji2
 by_cases c3 : 0 ≤ (ji2)
 ·rw [if_pos c3] at H
  have c3b0 := eq_true c3
  have c3b1 : decide (0 ≤ (ji2)) = true := decide_eq_true c3
  clear c3
  by_cases c4 : (ji2) ≤ (a0.size : Int)
  ·rw [if_pos c4] at H
   have c4b0 := eq_true c4
   have c4b1 : decide ((ji2) ≤ (a0.size : Int)) = true := decide_eq_true c4
   clear c4
   obtain rfl := Option.some.inj H
   go_enter Tryz.func60, Tryz.ntmps60
   go_wp2
   go_ret
   exact ⟨by first | rfl | (simp [qAj, qAi] <;> rfl) | (simp only [← hji2]; first | rfl | (simp [qAj, qAi] <;> rfl)) | (simp [*, qAj, qAi] <;> rfl), by repeat (first | (with_reducible first | exact HB.out | apply qAb | apply qAa | apply qAc) | exact HB.out)⟩
  ·rw [if_neg c4] at H
   exact absurd H (by simp)
 ·rw [if_neg c3] at H
  exact absurd H (by simp)
end Go.Proofs.YtdijnmcfpbceaaaGreatDoor.P

namespace Go.Proofs.YtdijnmcfpbceaaaGreatDoor.X
open Go.RowKit Go.Proofs.YtdijnmcfpbceaaaGreatDoorW.PrintWords Go.Proofs.YtdijnmcfpbceaaaGreatDoorW.PrintLast Go.Proofs.YtdijnmcfpbceaaaGreatDoorW.PrintMore Go.Proofs.YtdijnmcfpbceaaaGreatDoor.P
set_option linter.unusedVariables false
set_option linter.unusedSimpArgs false
theorem qIf (n : S47) : tar_name.f n.f0 n.f1 n.f2 = some (nameN n) := by
  unfold tar_name.f nameN
  by_cases h : n.f0.size = 0
  · rw [if_pos ((qAy _).2 h), if_pos h]
  · rw [if_neg (fun e => h ((qAy _).1 e)), if_neg h]
theorem cut_eq (s : ByteArray) : tar_cut.f s = some (cutS s) := by
  unfold tar_cut.f cutS
  have e : mn (s.size : Int) 100 = ((min s.size 100 : Nat) : Int) := by
    unfold mn
    omega
  rw [e, if_pos (by omega), if_pos (by omega), Int.toNat_natCast]
theorem qB3 (s : ByteArray) : (⟨#[]⟩ : ByteArray) ++ s = s := by
  apply qAv
  rw [ByteArray.toList_data_append]
  rfl
theorem qBo (s : ByteArray) : s ++ (⟨#[]⟩ : ByteArray) = s := by
  apply qAv
  rw [ByteArray.toList_data_append]
  simp
theorem qJh (n : S47) (h0 : n.f0.size ≤ 1000) (h2 : n.f2.size ≤ 1000) : tar_extra.f n.f0 n.f1 n.f2 = some (extraN n) := by
  unfold tar_extra.f extraN
  rw [qIf]
  simp only [Option.bind_some]
  have hn : (nameN n).size ≤ 1000 := by
    unfold nameN
    split
    · exact (by decide : (⟨#[46]⟩ : ByteArray).size ≤ 1000)
    · exact h0
  generalize nameN n = p at *
  have hr : ∀ a b : ByteArray, a.size ≤ 10 → b.size ≤ 1000 → tar_Record.f a b = some (recT a b) ∧ (recT a b).size ≤ 3000 := fun a b ha hb => by
    refine ⟨by unfold tar_Record.f; rw [if_pos (by omega)], ?_⟩
    rw [qE8, ByteArray.size_append, qC9, qCm]
    have h1 := qDm 5 (recM (a.size + b.size + 3)) (by
      have h2 := (qDi (a.size + b.size + 3) (by omega)).2
      have : (10 : Nat) ^ (5 + 1) = 1000000 := by decide
      omega)
    omega
  obtain ⟨a1, a2⟩ := hr ⟨#[112, 97, 116, 104]⟩ p (by decide) hn
  obtain ⟨b1, b2⟩ := hr ⟨#[108, 105, 110, 107, 112, 97, 116, 104]⟩ n.f2 (by decide) h2
  rw [a1, b1]
  simp only [Option.bind_some, qB3]
  have c1 : 0 + (recT ⟨#[112, 97, 116, 104]⟩ p).size ≤ 9223372036854775807 := by omega
  have c2 : (recT ⟨#[112, 97, 116, 104]⟩ p).size + (recT ⟨#[108, 105, 110, 107, 112, 97, 116, 104]⟩ n.f2).size ≤ 9223372036854775807 := by omega
  have c3 : 0 + (recT ⟨#[108, 105, 110, 107, 112, 97, 116, 104]⟩ n.f2).size ≤ 9223372036854775807 := by omega
  rw [if_pos c1, if_pos c2, if_pos c3]
  by_cases d1 : 100 < p.size
  · have d1' : (p.size : Int) > 100 := by omega
    rw [if_pos d1', if_pos d1]
    by_cases d2 : n.f1 = 4
    · by_cases d3 : 100 < n.f2.size
      · rw [if_pos d2, if_pos (by omega), if_pos ⟨d2, d3⟩]
      · rw [if_pos d2, if_neg (by omega), if_neg (fun e => d3 e.2), qBo]
    · rw [if_neg d2, if_neg (fun e => d2 e.1), qBo]
  · have d1' : ¬ (p.size : Int) > 100 := by omega
    rw [if_neg d1', if_neg d1]
    by_cases d2 : n.f1 = 4
    · by_cases d3 : 100 < n.f2.size
      · rw [if_pos d2, if_pos (by omega), if_pos ⟨d2, d3⟩, qB3]
      · rw [if_pos d2, if_neg (by omega), if_neg (fun e => d3 e.2), qBo]
    · rw [if_neg d2, if_neg (fun e => d2 e.1), qBo]
section
variable {P : Program} {ops : Array Oper} {rest : List Oper} {o : Oper} {a : Act} {Q : Exit → Act → World → Prop}
theorem qFg (m : Nat) : (Builtin.zeroCells (Value.int .u8 0).cells m).toList = nums .u8 (List.replicate m 0) := by
  apply List.ext_getElem
  · simp [Builtin.zeroCells, nums, Value.cells]
  · intro i h1 h2
    simp [Builtin.zeroCells, nums, Value.cells, Nat.mod_one]
theorem qCf {w0 W : World} (base : Nat) (hgd : o.guard = none) (s x : Operand) (t ti e : TypeId) {k : IntKind}
    (ho : o.op = .call { callee := .builtin .append, args := #[s, x], argTypes := #[t, ti] })
    (ht : P.underlying t = some (.slice e)) (hti : P.underlying ti = some (.int k)) (hinfo : (P.info? e).map (fun i => (i.zero, i.size, i.bytes)) = some (some (.int .u8 0), 1, 1))
    (v : Value) (n : Nat) (xs : List Int) (kx : IntKind) (m : Nat) (hs : a.eval s = v) (hx : a.eval x = .int kx m)
    (HO : W.ownsRow base e 1 v xs.length (nums .u8 xs)) (HB : Below base w0 W) (hbase : base ≤ W.heap.size) (hl : (xs.length + m) * 1 ≤ 140737488355328)
    (h : ∀ v1 w1, w1.ownsRow base e 1 v1 (xs ++ List.replicate m 0).length (nums .u8 (xs ++ List.replicate m 0)) → Below base w0 w1 → W.grownBy w1 v.ownBlock → wpList P ops Q rest (a.put o.dst v1) w1) :
    wpList P ops Q (o :: rest) a W := by
  obtain ⟨i0, hi, hzz⟩ := Option.map_eq_some_iff.1 hinfo
  simp only [Prod.mk.injEq] at hzz
  obtain ⟨hz0, hz1, hz2⟩ := hzz
  obtain ⟨v1, w1, hr1, h1, hg, _⟩ := qD0 (P := P) W base t ti o.type e i0 (.int .u8 0) 1 1 ht hti hi hz0 hz1 hz2 rfl (by decide) (by decide) v xs.length (nums .u8 xs) HO kx m (by rw [qFg]; intro u hu; simp [nums] at hu; rw [hu.2]; rfl) hl hbase
  refine wpList_plain hgd fun K hK => ?_
  unfold Oper.wp execOp
  simp only [ho, resolve, invoke, builtin, Sem.run_bind, Sem.run_pure, Result.andThen_ok, List.map_toArray, List.map_cons, List.map_nil, hs, hx, hr1]
  refine hK _ _ (h v1 w1 ?_ (HB.grown hg hbase (qC5 HO)) hg)
  rw [qFg] at h1
  rw [List.length_append, List.length_replicate, qEg]
  exact h1
end
structure WrAt (w : World) (base gw : Nat) (v : Value) (xs : List Int) (e : Int) : Prop where
  cell : w.heap[gw]? = some (.cells #[v, .int .i64 e] 56 (0, 0))
  row : w.ownsRow base 5 1 v xs.length (nums .u8 xs)
def KeepU (gw : Nat) (w w' : World) : Prop := ∀ k cs t, k ≠ gw → t ≠ 5 → w.heap[k]? = some (.cells cs t (0, 0)) → w'.heap[k]? = some (.cells cs t (0, 0))
theorem KeepU.trans {gw : Nat} {w w1 w2 : World} (h : KeepU gw w w1) (g : KeepU gw w1 w2) : KeepU gw w w2 := fun k cs t hk ht he => g k cs t hk ht (h k cs t hk ht he)
theorem KeepU.below {gw : Nat} {w w1 : World} (h : Below w.heap.size w w1) : KeepU gw w w1 := fun k cs t _ _ he => qAg he h
theorem KeepU.grown {gw : Nat} {w w1 : World} {base n : Nat} {v : Value} {xs : List Value} (ho : w.ownsRow base 5 1 v n xs) (hg : w.grownBy w1 v.ownBlock) : KeepU gw w w1 := fun k cs t _ ht he => (hg.block k (blk_lt he) (own_ne ho he (fun e => ht e.symm))).trans he
theorem KeepU.set (gw : Nat) (w : World) (i : Nat) (u : Value) : KeepU gw w (w.setCell ⟨gw, i, none⟩ u) := fun k cs t hk _ he => (Below.heap_setCell w ⟨gw, i, none⟩ u k hk).trans he
set_option maxHeartbeats 4000000 in
set_option maxRecDepth 100000 in
theorem qB0 (base gw : Nat) (v : Value) (xs : List Int) (n : Int) (E : EntT) (w : World) (hT : Aside0 (Tabs w)) (h : WrAt w base gw v xs n) (hl : xs.length ≤ 1000000000) (hd : E.data.size ≤ 1000000) (h0 : 0 ≤ n) (hn : n ≤ 1000000) (hbase : base ≤ gw) :
    Calls Tryz.prog 59 #[.pointer (some ⟨gw, 0, none⟩), .string E.name, .int .i64 E.kind, .string E.link, .string E.data] w fun en w' => en = .returned (.tuple #[]) ∧
      ∃ v', WrAt w' base gw v' (xs ++ entryB E) (n + 1) ∧ Below base w w' ∧ KeepU gw w w' := by
  have H := Aside0.mk h
  have hbs : base ≤ w.heap.size := by
    have := blk_lt h.cell
    omega
  have z0 : w.cell? ⟨gw, 0, none⟩ = some v := (qAd h.cell 0).trans rfl
  have z1 : w.cell? ⟨gw, 1, none⟩ = some (.int .i64 n) := (qAd h.cell 1).trans rfl
  clear h
  go_enter Tryz.func59, Tryz.ntmps59
  go_wp2_with fail
  obtain ⟨⟨hs, ok⟩, hlr⟩ : ∃ r, layR E.name E.kind (E.data.size : Int) E.link = r := ⟨_, rfl⟩
  have hlm : hs.length ≤ 512 := by
    have := qEh E.name E.kind (E.data.size : Int) E.link
    rw [hlr] at this
    exact this
  have HEq := Aside0.mk (show entryB E = hs ++ (bytesOf E.data ++ List.replicate (padN E.data.size) 0) from by unfold entryB; rw [hlr])
  have hlay : head_Lay.f 1 E.name E.kind (E.data.size : Int) E.link = some (hs, ok) := by rw [lay_eq 0 E.name E.kind (E.data.size : Int) E.link (by omega), hlr]
  clear hlr
  refine (head_Lay.calls 1 E.name E.kind (E.data.size : Int) E.link hs ok w hT hlay).mono ?_
  rintro e w1 ⟨hv, rfl, hR, hb⟩
  clear hlay
  obtain ⟨Ah, ch, rfl, hch, hCh⟩ := Kd.R_reads hR
  have HCh := Aside0.mk hCh
  have HB1 := Aside0.mk hb
  have HW1 := Aside0.mk (ownG H.out.row hb)
  have HZ1 := Aside0.mk (qAg H.out.cell hb)
  have y0 : w1.cell? ⟨gw, 0, none⟩ = some v := (qAd HZ1.out 0).trans rfl
  have y1 : w1.cell? ⟨gw, 1, none⟩ = some (.int .i64 n) := (qAd HZ1.out 1).trans rfl
  clear hR hCh hb z0 z1
  go_wp2_with (first
    | (at_builtin; (refine qBp (w0 := w1) base rfl (.tmp 25) (.tmp 26) 26 5 .u8 1 rfl Tryz.underlying26 (by kernel_rfl) (by decide) v xs hs Ah hs.length ch rfl rfl HW1.out (Kd.reads_of_C (d := (0 : Int)) HCh.out) (Below.refl _ _) (Nat.le_trans hbs HB1.out.size) (by omega) ?_)
       intro v2 w2 ho2 hb2 hg2 _
       have HO2 := Aside0.mk ho2
       have HK2 := Aside0.mk (KeepU.grown (gw := gw) HW1.out hg2)
       have HB2 := Aside0.mk hb2
       have HZ2 := Aside0.mk ((hg2.block gw (blk_lt HZ1.out) (own_ne HW1.out HZ1.out (by decide))).trans HZ1.out)
       have hs2 : w1.heap.size ≤ w2.heap.size := hg2.size
       clear ho2 hb2 hg2 y0 y1)
    | (at_builtin; (refine qD1 (w0 := w1) base rfl (.tmp 27) (.tmp 28) 26 9 5 rfl Tryz.underlying26 Tryz.underlying9 (by kernel_rfl) v2 (xs ++ hs) E.data rfl rfl HO2.out HB2.out (Nat.le_trans hbs (Nat.le_trans HB1.out.size hs2)) (by rw [List.length_append]; omega) ?_)
       intro v3 w3 ho3 hb3 hg3
       generalize hys : xs ++ hs ++ bytesOf E.data = ys at ho3
       have HYS := Aside0.mk hys
       have hyl : ys.length ≤ 1002000000 := by
         rw [← hys]
         simp only [List.length_append, qAz]
         omega
       clear hys
       have HO3 := Aside0.mk ho3
       have HK3 := Aside0.mk (HK2.out.trans (KeepU.grown (gw := gw) HO2.out hg3))
       have HB3 := Aside0.mk hb3
       have HZ3 := Aside0.mk ((hg3.block gw (blk_lt HZ2.out) (own_ne HO2.out HZ2.out (by decide))).trans HZ2.out)
       have hs3 : w2.heap.size ≤ w3.heap.size := hg3.size
       have y0 : w3.cell? ⟨gw, 0, none⟩ = some v := (qAd HZ3.out 0).trans rfl
       have y1 : w3.cell? ⟨gw, 1, none⟩ = some (.int .i64 n) := (qAd HZ3.out 1).trans rfl
       obtain ⟨a3, b3, rfl⟩ := qBw ho3
       have hfz := fun k => qAf HZ3.out k
       have HZ4 := Aside0.mk (show (w3.setCell ⟨gw, 0, none⟩ (.slice a3 ys.length b3)).heap[gw]? = some (.cells #[.slice a3 ys.length b3, .int .i64 n] 56 (0, 0)) from qAp HZ3.out 0 _)
       have x0 := (show (w3.setCell ⟨gw, 0, none⟩ (.slice a3 ys.length b3)).cell? ⟨gw, 0, none⟩ = some (.slice a3 ys.length b3) from (qAd HZ4.out 0).trans rfl)
       have HO4 := Aside0.mk (qBe (w1 := w3.setCell ⟨gw, 0, none⟩ (.slice a3 ys.length b3)) ho3 (fun k hk => Below.heap_setCell w3 ⟨gw, 0, none⟩ _ k (fun e => own_ne ho3 HZ3.out (by decide) (by rw [hk, e]))))
       have HB4 := Aside0.mk (show Below base w1 (w3.setCell ⟨gw, 0, none⟩ (.slice a3 ys.length b3)) from ⟨hb3.os, hb3.tape, hb3.output, by rw [sizeG]; exact hb3.size, fun k hk => (Below.heap_setCell w3 ⟨gw, 0, none⟩ _ k (by show k ≠ gw; omega)).trans (hb3.block k hk)⟩)
       clear ho3 hb3 hg3)
    | (at_builtin; (refine qCf (w0 := w1) base rfl (.tmp 36) (.tmp 41) 26 3 5 rfl Tryz.underlying26 Tryz.underlying3 (by kernel_rfl) (.slice a3 ys.length b3) 0 ys .i64 (padN E.data.size) (by first | rfl | (show Value.slice _ _ _ = _; simp)) (by show Value.int _ _ = _; congr 1; unfold padN; omega) HO4.out HB4.out (by rw [sizeG]; exact Nat.le_trans hbs (Nat.le_trans HB1.out.size (Nat.le_trans hs2 hs3))) (by unfold padN; omega) ?_)
       intro v5 w5 ho5 hb5 hg5
       generalize hzs : ys ++ List.replicate (padN E.data.size) 0 = zs at ho5
       have HZS := Aside0.mk hzs
       clear hzs
       obtain ⟨a5, b5, rfl⟩ := qBw ho5
       have HZ5 := Aside0.mk ((hg5.block gw (blk_lt HZ4.out) (own_ne HO4.out HZ4.out (by decide))).trans HZ4.out)
       have hfz5 := fun k => qAf HZ5.out k
       have HZ6 := Aside0.mk (show (w5.setCell ⟨gw, 0, none⟩ (.slice a5 zs.length b5)).heap[gw]? = some (.cells #[.slice a5 zs.length b5, .int .i64 n] 56 (0, 0)) from qAp HZ5.out 0 _)
       have hfz6 := fun k => qAf HZ6.out k
       have u0 := (show w5.cell? ⟨gw, 0, none⟩ = some (.slice a3 ys.length b3) from (qAd HZ5.out 0).trans rfl)
       have u1 := (show (w5.setCell ⟨gw, 0, none⟩ (.slice a5 zs.length b5)).cell? ⟨gw, 1, none⟩ = some (.int .i64 n) from (qAd HZ6.out 1).trans rfl)
       have HO5 := Aside0.mk ho5
       have HK5 := Aside0.mk ((HK3.out.trans (KeepU.set gw w3 0 (.slice a3 ys.length b3))).trans (KeepU.grown (gw := gw) HO4.out hg5))
       have HB5 := Aside0.mk hb5
       clear ho5 hb5 hg5)
    | (at_builtin; fail))
  go_end0
  have HXS := Aside0.mk (show zs = xs ++ entryB E from by
    rw [← HZS.out, ← HYS.out, HEq.out]
    simp)
  have HC7 := qAp HZ6.out 1 (.int .i64 (n + 1))
  have HO6 := qBe (w1 := w5.setCell ⟨gw, 0, none⟩ (.slice a5 zs.length b5)) HO5.out (fun k hk => Below.heap_setCell w5 ⟨gw, 0, none⟩ _ k (fun e => own_ne HO5.out HZ5.out (by decide) (by rw [hk, e])))
  have HO7 := qBe (w1 := (w5.setCell ⟨gw, 0, none⟩ (.slice a5 zs.length b5)).setCell ⟨gw, 1, none⟩ (.int .i64 (n + 1))) HO6 (fun k hk => Below.heap_setCell _ ⟨gw, 1, none⟩ _ k (fun e => own_ne HO6 HZ6.out (by decide) (by rw [hk, e])))
  rw [← HXS.out]
  refine ⟨rfl, .slice a5 zs.length b5, ⟨HC7, HO7⟩, ?_⟩
  have hb5 := HB5.out
  have hb1 := HB1.out
  refine ⟨?_, (KeepU.below hb1).trans (HK5.out.trans ((KeepU.set gw w5 0 _).trans (KeepU.set gw _ 1 _)))⟩
  refine ⟨hb5.os.trans hb1.os, hb5.tape.trans hb1.tape, hb5.output.trans hb1.output, ?_, fun k hk => ?_⟩
  · rw [sizeG, sizeG]
    exact Nat.le_trans hb1.size hb5.size
  · refine (Below.heap_setCell _ ⟨gw, 1, none⟩ _ k (by show k ≠ gw; omega)).trans ((Below.heap_setCell _ ⟨gw, 0, none⟩ _ k (by show k ≠ gw; omega)).trans ((hb5.block k hk).trans (hb1.block k (by omega))))
end Go.Proofs.YtdijnmcfpbceaaaGreatDoor.X

namespace Go.Proofs.YtdijnmcfpbceaaaGreatDoor.X
open Go.RowKit Go.Proofs.YtdijnmcfpbceaaaGreatDoorW.PrintWords Go.Proofs.YtdijnmcfpbceaaaGreatDoorW.PrintLast Go.Proofs.YtdijnmcfpbceaaaGreatDoorW.PrintMore Go.Proofs.YtdijnmcfpbceaaaGreatDoor.P
set_option linter.unusedVariables false
set_option linter.unusedSimpArgs false
theorem qEi (n : S47) (h0 : n.f0.size ≤ 1000) (h2 : n.f2.size ≤ 1000) : (extraN n).size ≤ 6000 := by
  have hr : ∀ a b : ByteArray, a.size ≤ 10 → b.size ≤ 1000 → (recT a b).size ≤ 3000 := fun a b ha hb => by
    rw [qE8, ByteArray.size_append, qC9, qCm]
    have h1 := qDm 5 (recM (a.size + b.size + 3)) (by
      have h2 := (qDi (a.size + b.size + 3) (by omega)).2
      have : (10 : Nat) ^ (5 + 1) = 1000000 := by decide
      omega)
    omega
  have hn : (nameN n).size ≤ 1000 := by
    unfold nameN
    split
    · exact (by decide : (⟨#[46]⟩ : ByteArray).size ≤ 1000)
    · exact h0
  have e0 : (⟨#[]⟩ : ByteArray).size = 0 := rfl
  unfold extraN
  rw [ByteArray.size_append]
  have a := hr ⟨#[112, 97, 116, 104]⟩ (nameN n) (by decide) hn
  have b := hr ⟨#[108, 105, 110, 107, 112, 97, 116, 104]⟩ n.f2 (by decide) h2
  split <;> split <;> omega
theorem qDo (e : EntT) : (entryB e).length ≤ 512 + e.data.size + 512 := by
  have := qEh e.name e.kind (e.data.size : Int) e.link
  unfold entryB padN
  rw [List.length_append, List.length_append, List.length_replicate, qAz]
  omega
theorem WrAt.below {w w1 : World} {base gw : Nat} {v : Value} {xs : List Int} {e : Int} (h : WrAt w base gw v xs e) (hb : Below w.heap.size w w1) : WrAt w1 base gw v xs e := ⟨qAg h.cell hb, ownG h.row hb⟩
theorem qD6 {w1 w2 w3 : World} {base : Nat} (h : Below w1.heap.size w1 w2) (g : Below base w2 w3) (hb : base ≤ w1.heap.size) : Below base w1 w3 :=
  ⟨g.os.trans h.os, g.tape.trans h.tape, g.output.trans h.output, Nat.le_trans h.size g.size, fun k hk => (g.block k hk).trans (h.block k (by omega))⟩
theorem qB7 {w0 w1 w2 : World} (h : Below w0.heap.size w0 w1) (g : Below w0.heap.size w1 w2) : Below w0.heap.size w0 w2 :=
  ⟨g.os.trans h.os, g.tape.trans h.tape, g.output.trans h.output, Nat.le_trans h.size g.size, fun k hk => (g.block k hk).trans (h.block k hk)⟩
set_option maxHeartbeats 4000000 in
set_option maxRecDepth 100000 in
theorem qHl (w0 : World) (gw : Nat) (v : Value) (xs : List Int) (c : Int) (n : S47) (w : World) (hT : Aside0 (Tabs w0)) (hB0 : Below w0.heap.size w0 w) (h : WrAt w w0.heap.size gw v xs c) (hl : xs.length ≤ 900000000) (h0 : n.f0.size ≤ 1000) (h2 : n.f2.size ≤ 1000) (hc0 : 0 ≤ c) (hc : c ≤ 900000) (hbase : w0.heap.size ≤ gw) :
    Calls Tryz.prog 44 #[.pointer (some ⟨gw, 0, none⟩), .agg #[.string n.f0, .int .i64 n.f1, .string n.f2]] w fun en w' => en = .returned (.tuple #[]) ∧
      ∃ v', WrAt w' w0.heap.size gw v' (xs ++ (entsN n).flatMap entryB) (c + ((entsN n).length : Nat)) ∧ Below w0.heap.size w0 w' ∧ KeepU gw w w' := by
  have H := Aside0.mk h
  have HB0 := Aside0.mk hB0
  have hgn : gw ≠ w.heap.size := by
    have := blk_lt h.cell
    omega
  have HE := Aside0.mk (qJh n h0 h2)
  have HN := Aside0.mk (qIf n)
  have HC1 := Aside0.mk (cut_eq (nameN n))
  have HC2 := Aside0.mk (cut_eq n.f2)
  have hes := qEi n h0 h2
  clear h hB0
  go_enter Tryz.func44, Tryz.ntmps44
  go_wp2_with fail
  refine (tar_extra.calls n.f0 n.f1 n.f2 (extraN n) _ ⟨Tabs.below hT.out (qAb HB0.out _)⟩ HE.out).mono ?_
  rintro e Wn ⟨rfl, hb1⟩
  have HBw := Aside0.mk (qAe (qAb (Below.refl w.heap.size w) (.cells #[.string n.f0, .int .i64 n.f1, .string n.f2] 47)) hb1)
  have HB := Aside0.mk (qAe HB0.out HBw.out)
  have HG := Aside0.mk (qAg (qA7 w (.cells #[.string n.f0, .int .i64 n.f1, .string n.f2] 47)) hb1)
  have HW := Aside0.mk (H.out.below HBw.out)
  have HKn := Aside0.mk (KeepU.below (gw := gw) HBw.out)
  generalize w.heap.size = gn at HG hgn
  clear hb1 H HE HBw
  obtain ⟨b0, hb0⟩ : ∃ b, ((extraN n).toList != []) = b := ⟨_, rfl⟩
  obtain ⟨b4, hb4⟩ : ∃ b, (n.f1 == 4) = b := ⟨_, rfl⟩
  have hb4d : decide (n.f1 = 4) = b4 := by rw [← hb4]; rfl
  have HX0 := Aside0.mk hb0
  generalize hex : extraN n = ex at *
  have HEX := Aside0.mk hex
  clear hex
  have hb0a : (ex.toList == []) = !b0 := by rw [← hb0]; simp [bne]
  have z1 := (show Wn.cell? ⟨gn, 1, none⟩ = some (.int .i64 n.f1) from (qAd HG.out 1).trans rfl)
  cases b0 with
  | false =>
    have HX := Aside0.mk (show (if ex.size = 0 then ([] : List EntT) else [⟨⟨#[112, 97, 120]⟩, 5, ⟨#[]⟩, ex⟩]) = [] from if_pos ((qAy _).1 (bne_eq_false_iff_eq.1 HX0.out)))
    cases b4 with
    | true =>
      go_wp2_with fail
      refine start_ (n := 10) (S := fun w' => Below Wn.heap.size Wn w') (ds := [9]) (bmG 10 0) (by kernel_rfl) rfl (by kernel_rfl) (qAc (Below.refl Wn.heap.size Wn)) (fun hS => ?_)
      generalize Wn.drew = wd at hS ⊢
      refine pure_ (i := 0) (N := some 15) (v := ?_) (a' := ?_) (bmG 10 1) rfl rfl (by kernel_rfl) (fun _ _ _ h => h) (Or.inl ⟨by rfl, ?_⟩) ?_ ?_
      rotate_left
      · intro w'
        go_simp
        with_reducible rfl
      rotate_left
      · simp only [Act.put, List.setIfInBounds_toArray, List.set_cons_zero, List.set_cons_succ, i64_w, i32_w]
        rfl
      refine take_ (i := 1) (N := some 16) (v := ?_) (a' := ?_) (bmG 10 3) rfl rfl (by kernel_rfl) (fun _ _ _ h => h) (Or.inl ⟨by rfl, ?_⟩) hS ?_ ?_
      rotate_left
      · intro w' hS
        have s0 := (show w'.cell? ⟨gn, 0, none⟩ = some (.string n.f0) from (qAd (qAg HG.out hS) 0).trans rfl)
        have s1 := (show w'.cell? ⟨gn, 1, none⟩ = some (.int .i64 n.f1) from (qAd (qAg HG.out hS) 1).trans rfl)
        have s2 := (show w'.cell? ⟨gn, 2, none⟩ = some (.string n.f2) from (qAd (qAg HG.out hS) 2).trans rfl)
        go_simp
        with_reducible rfl
      rotate_left
      · simp only [Act.put, List.setIfInBounds_toArray, List.set_cons_zero, List.set_cons_succ, i64_w, i32_w]
        rfl
      refine pure_ (i := 4) (N := some 19) (v := ?_) (a' := ?_) (bmG 10 19) rfl rfl (by kernel_rfl) (fun _ _ _ h => h) (Or.inl ⟨by rfl, ?_⟩) ?_ ?_
      rotate_left
      · intro w'
        go_simp
        with_reducible rfl
      rotate_left
      · simp only [Act.put, List.setIfInBounds_toArray, List.set_cons_zero, List.set_cons_succ, i64_w, i32_w]
        rfl
      refine take_ (i := 5) (N := some 20) (v := ?_) (a' := ?_) (bmG 10 51) rfl rfl (by kernel_rfl) (fun _ _ _ h => h) (Or.inl ⟨by rfl, ?_⟩) hS ?_ ?_
      rotate_left
      · intro w' hS
        have s0 := (show w'.cell? ⟨gn, 0, none⟩ = some (.string n.f0) from (qAd (qAg HG.out hS) 0).trans rfl)
        have s1 := (show w'.cell? ⟨gn, 1, none⟩ = some (.int .i64 n.f1) from (qAd (qAg HG.out hS) 1).trans rfl)
        have s2 := (show w'.cell? ⟨gn, 2, none⟩ = some (.string n.f2) from (qAd (qAg HG.out hS) 2).trans rfl)
        go_simp
        with_reducible rfl
      rotate_left
      · simp only [Act.put, List.setIfInBounds_toArray, List.set_cons_zero, List.set_cons_succ, i64_w, i32_w]
        rfl
      refine pure_ (i := 6) (N := some 21) (v := ?_) (a' := ?_) (bmG 10 115) rfl rfl (by kernel_rfl) (fun _ _ _ h => h) (Or.inl ⟨by rfl, ?_⟩) ?_ ?_
      rotate_left
      · intro w'
        go_simp
        with_reducible rfl
      rotate_left
      · simp only [Act.put, List.setIfInBounds_toArray, List.set_cons_zero, List.set_cons_succ, i64_w, i32_w]
        rfl
      refine take_ (i := 7) (N := some 22) (v := ?_) (a' := ?_) (bmG 10 243) rfl rfl (by kernel_rfl) (fun _ _ _ h => h) (Or.inl ⟨by rfl, ?_⟩) hS ?_ ?_
      rotate_left
      · intro w' hS
        have s0 := (show w'.cell? ⟨gn, 0, none⟩ = some (.string n.f0) from (qAd (qAg HG.out hS) 0).trans rfl)
        have s1 := (show w'.cell? ⟨gn, 1, none⟩ = some (.int .i64 n.f1) from (qAd (qAg HG.out hS) 1).trans rfl)
        have s2 := (show w'.cell? ⟨gn, 2, none⟩ = some (.string n.f2) from (qAd (qAg HG.out hS) 2).trans rfl)
        go_simp
        with_reducible rfl
      rotate_left
      · simp only [Act.put, List.setIfInBounds_toArray, List.set_cons_zero, List.set_cons_succ, i64_w, i32_w]
        rfl
      refine one_ (i := 2) (N := some 17) (bmG 10 247) rfl rfl (by kernel_rfl) (by decide) (fun Kz hKz => ?_)
      refine goes_ Tryz.func61 (by kernel_rfl) rfl #[.agg #[.string n.f0, .int .i64 n.f1, .string n.f2]] (by rfl) rfl rfl (by (try simp only [List.map_toArray, List.map_cons, List.map_nil]); first | done | rfl) ?_
      refine (tar_name.calls n.f0 n.f1 n.f2 _ _ HN.out).mono ?_
      rintro e wc ⟨rfl, hb⟩
      refine ⟨_, rfl, ?_⟩
      refine hKz.out _ _ (qAe hS hb) (fun hS => ?_)
      clear hKz Kz
      refine norm_ (a' := ?_) ?_ ?_
      rotate_left
      · show Act.put _ (some 17) _ = _
        simp only [Act.put, List.setIfInBounds_toArray, List.set_cons_zero, List.set_cons_succ, i64_w, i32_w]
        rfl
      refine one_ (i := 3) (N := some 18) (bmG 10 255) rfl rfl (by kernel_rfl) (by decide) (fun Kz hKz => ?_)
      refine goes_ Tryz.func60 (by kernel_rfl) rfl #[.string (nameN n)] (by rfl) rfl rfl (by (try simp only [List.map_toArray, List.map_cons, List.map_nil]); first | done | rfl) ?_
      refine (tar_cut.calls (nameN n) _ _ HC1.out).mono ?_
      rintro e wc ⟨rfl, hb⟩
      refine ⟨_, rfl, ?_⟩
      refine hKz.out _ _ (qAe hS hb) (fun hS => ?_)
      clear hKz Kz
      refine norm_ (a' := ?_) ?_ ?_
      rotate_left
      · show Act.put _ (some 18) _ = _
        simp only [Act.put, List.setIfInBounds_toArray, List.set_cons_zero, List.set_cons_succ, i64_w, i32_w]
        rfl
      refine one_ (i := 8) (N := some 23) (bmG 10 511) rfl rfl (by kernel_rfl) (by decide) (fun Kz hKz => ?_)
      refine goes_ Tryz.func60 (by kernel_rfl) rfl #[.string n.f2] (by rfl) rfl rfl (by (try simp only [List.map_toArray, List.map_cons, List.map_nil]); first | done | rfl) ?_
      refine (tar_cut.calls n.f2 _ _ HC2.out).mono ?_
      rintro e wc ⟨rfl, hb⟩
      refine ⟨_, rfl, ?_⟩
      refine hKz.out _ _ (qAe hS hb) (fun hS => ?_)
      clear hKz Kz
      refine norm_ (a' := ?_) ?_ ?_
      rotate_left
      · show Act.put _ (some 23) _ = _
        simp only [Act.put, List.setIfInBounds_toArray, List.set_cons_zero, List.set_cons_succ, i64_w, i32_w]
        rfl
      refine last_ (i := 9) (N := some 24) (bmG 10 1023) rfl rfl (by kernel_rfl) (by decide) (fun Kz hKz => ?_)
      refine goes_ Tryz.func59 (by kernel_rfl) rfl #[.pointer (some ⟨gw, 0, none⟩), .string (cutS (nameN n)), .int .i64 n.f1, .string (cutS n.f2), .string ⟨#[]⟩] (by rfl) rfl rfl (by (try simp only [List.map_toArray, List.map_cons, List.map_nil]); first | done | rfl) ?_
      refine (qB0 w0.heap.size gw v xs c ⟨cutS (nameN n), n.f1, cutS n.f2, ⟨#[]⟩⟩ _ ⟨Tabs.below hT.out (qAe HB.out hS)⟩ (HW.out.below hS) (by omega) (show (0 : Nat) ≤ 1000000 from by decide) hc0 (by omega) hbase).mono ?_
      rintro e wc ⟨rfl, v9, hw9, hb9, hk9⟩
      refine ⟨_, rfl, ?_⟩
      refine hKz.out _ _ ?_
      clear hKz Kz
      refine norm_ (a' := ?_) ?_ ?_
      rotate_left
      · show Act.put _ (some 24) _ = _
        simp only [Act.put, List.setIfInBounds_toArray, List.set_cons_zero, List.set_cons_succ, i64_w, i32_w]
        rfl
      refine done_ (by kernel_rfl) ?_
      have HEN := Aside0.mk (show entsN n = [⟨cutS (nameN n), n.f1, cutS n.f2, ⟨#[]⟩⟩] from by
        unfold entsN
        rw [HEX.out, HX.out, show ownE n = ⟨cutS (nameN n), n.f1, cutS n.f2, ⟨#[]⟩⟩ from if_pos (by simpa using hb4)]
        rfl)
      have HBF := Aside0.mk (qB7 HB.out (qD6 hS hb9 HB.out.size))
      have HW9 := Aside0.mk hw9
      have HK9 := Aside0.mk (HKn.out.trans ((KeepU.below hS).trans hk9))
      clear hw9 hb9 hk9
      go_wp2_with fail
      first | go_end0 | ((try simp only [Exit.inBlock, Exit.then]); refine bodyPost_ret (results_none rfl _ _ _) rfl ?_)
      refine ⟨rfl, v9, ?_, HBF.out, HK9.out⟩
      rw [HEN.out]
      have h9 := HW9.out
      simpa [List.append_assoc, Int.add_assoc] using h9
    | false =>
      go_wp2_with fail
      refine start_ (n := 9) (S := fun w' => Below Wn.heap.size Wn w') (ds := [8]) (bmG 9 0) (by kernel_rfl) rfl (by kernel_rfl) (qAc (Below.refl Wn.heap.size Wn)) (fun hS => ?_)
      generalize Wn.drew = wd at hS ⊢
      refine pure_ (i := 0) (N := some 25) (v := ?_) (a' := ?_) (bmG 9 1) rfl rfl (by kernel_rfl) (fun _ _ _ h => h) (Or.inl ⟨by rfl, ?_⟩) ?_ ?_
      rotate_left
      · intro w'
        go_simp
        with_reducible rfl
      rotate_left
      · simp only [Act.put, List.setIfInBounds_toArray, List.set_cons_zero, List.set_cons_succ, i64_w, i32_w]
        rfl
      refine take_ (i := 1) (N := some 26) (v := ?_) (a' := ?_) (bmG 9 3) rfl rfl (by kernel_rfl) (fun _ _ _ h => h) (Or.inl ⟨by rfl, ?_⟩) hS ?_ ?_
      rotate_left
      · intro w' hS
        have s0 := (show w'.cell? ⟨gn, 0, none⟩ = some (.string n.f0) from (qAd (qAg HG.out hS) 0).trans rfl)
        have s1 := (show w'.cell? ⟨gn, 1, none⟩ = some (.int .i64 n.f1) from (qAd (qAg HG.out hS) 1).trans rfl)
        have s2 := (show w'.cell? ⟨gn, 2, none⟩ = some (.string n.f2) from (qAd (qAg HG.out hS) 2).trans rfl)
        go_simp
        with_reducible rfl
      rotate_left
      · simp only [Act.put, List.setIfInBounds_toArray, List.set_cons_zero, List.set_cons_succ, i64_w, i32_w]
        rfl
      refine pure_ (i := 4) (N := some 29) (v := ?_) (a' := ?_) (bmG 9 19) rfl rfl (by kernel_rfl) (fun _ _ _ h => h) (Or.inl ⟨by rfl, ?_⟩) ?_ ?_
      rotate_left
      · intro w'
        go_simp
        with_reducible rfl
      rotate_left
      · simp only [Act.put, List.setIfInBounds_toArray, List.set_cons_zero, List.set_cons_succ, i64_w, i32_w]
        rfl
      refine take_ (i := 5) (N := some 30) (v := ?_) (a' := ?_) (bmG 9 51) rfl rfl (by kernel_rfl) (fun _ _ _ h => h) (Or.inl ⟨by rfl, ?_⟩) hS ?_ ?_
      rotate_left
      · intro w' hS
        have s0 := (show w'.cell? ⟨gn, 0, none⟩ = some (.string n.f0) from (qAd (qAg HG.out hS) 0).trans rfl)
        have s1 := (show w'.cell? ⟨gn, 1, none⟩ = some (.int .i64 n.f1) from (qAd (qAg HG.out hS) 1).trans rfl)
        have s2 := (show w'.cell? ⟨gn, 2, none⟩ = some (.string n.f2) from (qAd (qAg HG.out hS) 2).trans rfl)
        go_simp
        with_reducible rfl
      rotate_left
      · simp only [Act.put, List.setIfInBounds_toArray, List.set_cons_zero, List.set_cons_succ, i64_w, i32_w]
        rfl
      refine pure_ (i := 6) (N := some 31) (v := ?_) (a' := ?_) (bmG 9 115) rfl rfl (by kernel_rfl) (fun _ _ _ h => h) (Or.inl ⟨by rfl, ?_⟩) ?_ ?_
      rotate_left
      · intro w'
        go_simp
        with_reducible rfl
      rotate_left
      · simp only [Act.put, List.setIfInBounds_toArray, List.set_cons_zero, List.set_cons_succ, i64_w, i32_w]
        rfl
      refine take_ (i := 7) (N := some 32) (v := ?_) (a' := ?_) (bmG 9 243) rfl rfl (by kernel_rfl) (fun _ _ _ h => h) (Or.inl ⟨by rfl, ?_⟩) hS ?_ ?_
      rotate_left
      · intro w' hS
        have s0 := (show w'.cell? ⟨gn, 0, none⟩ = some (.string n.f0) from (qAd (qAg HG.out hS) 0).trans rfl)
        have s1 := (show w'.cell? ⟨gn, 1, none⟩ = some (.int .i64 n.f1) from (qAd (qAg HG.out hS) 1).trans rfl)
        have s2 := (show w'.cell? ⟨gn, 2, none⟩ = some (.string n.f2) from (qAd (qAg HG.out hS) 2).trans rfl)
        go_simp
        with_reducible rfl
      rotate_left
      · simp only [Act.put, List.setIfInBounds_toArray, List.set_cons_zero, List.set_cons_succ, i64_w, i32_w]
        rfl
      refine one_ (i := 2) (N := some 27) (bmG 9 247) rfl rfl (by kernel_rfl) (by decide) (fun Kz hKz => ?_)
      refine goes_ Tryz.func61 (by kernel_rfl) rfl #[.agg #[.string n.f0, .int .i64 n.f1, .string n.f2]] (by rfl) rfl rfl (by (try simp only [List.map_toArray, List.map_cons, List.map_nil]); first | done | rfl) ?_
      refine (tar_name.calls n.f0 n.f1 n.f2 _ _ HN.out).mono ?_
      rintro e wc ⟨rfl, hb⟩
      refine ⟨_, rfl, ?_⟩
      refine hKz.out _ _ (qAe hS hb) (fun hS => ?_)
      clear hKz Kz
      refine norm_ (a' := ?_) ?_ ?_
      rotate_left
      · show Act.put _ (some 27) _ = _
        simp only [Act.put, List.setIfInBounds_toArray, List.set_cons_zero, List.set_cons_succ, i64_w, i32_w]
        rfl
      refine one_ (i := 3) (N := some 28) (bmG 9 255) rfl rfl (by kernel_rfl) (by decide) (fun Kz hKz => ?_)
      refine goes_ Tryz.func60 (by kernel_rfl) rfl #[.string (nameN n)] (by rfl) rfl rfl (by (try simp only [List.map_toArray, List.map_cons, List.map_nil]); first | done | rfl) ?_
      refine (tar_cut.calls (nameN n) _ _ HC1.out).mono ?_
      rintro e wc ⟨rfl, hb⟩
      refine ⟨_, rfl, ?_⟩
      refine hKz.out _ _ (qAe hS hb) (fun hS => ?_)
      clear hKz Kz
      refine norm_ (a' := ?_) ?_ ?_
      rotate_left
      · show Act.put _ (some 28) _ = _
        simp only [Act.put, List.setIfInBounds_toArray, List.set_cons_zero, List.set_cons_succ, i64_w, i32_w]
        rfl
      refine last_ (i := 8) (N := some 33) (bmG 9 511) rfl rfl (by kernel_rfl) (by decide) (fun Kz hKz => ?_)
      refine goes_ Tryz.func59 (by kernel_rfl) rfl #[.pointer (some ⟨gw, 0, none⟩), .string (cutS (nameN n)), .int .i64 n.f1, .string ⟨#[]⟩, .string n.f2] (by rfl) rfl rfl (by (try simp only [List.map_toArray, List.map_cons, List.map_nil]); first | done | rfl) ?_
      refine (qB0 w0.heap.size gw v xs c ⟨cutS (nameN n), n.f1, ⟨#[]⟩, n.f2⟩ _ ⟨Tabs.below hT.out (qAe HB.out hS)⟩ (HW.out.below hS) (by omega) (by show n.f2.size ≤ 1000000; omega) hc0 (by omega) hbase).mono ?_
      rintro e wc ⟨rfl, v9, hw9, hb9, hk9⟩
      refine ⟨_, rfl, ?_⟩
      refine hKz.out _ _ ?_
      clear hKz Kz
      refine norm_ (a' := ?_) ?_ ?_
      rotate_left
      · show Act.put _ (some 33) _ = _
        simp only [Act.put, List.setIfInBounds_toArray, List.set_cons_zero, List.set_cons_succ, i64_w, i32_w]
        rfl
      refine done_ (by kernel_rfl) ?_
      have HEN := Aside0.mk (show entsN n = [⟨cutS (nameN n), n.f1, ⟨#[]⟩, n.f2⟩] from by
        unfold entsN
        rw [HEX.out, HX.out, show ownE n = ⟨cutS (nameN n), n.f1, ⟨#[]⟩, n.f2⟩ from if_neg (by simpa using hb4)]
        rfl)
      have HBF := Aside0.mk (qB7 HB.out (qD6 hS hb9 HB.out.size))
      have HW9 := Aside0.mk hw9
      have HK9 := Aside0.mk (HKn.out.trans ((KeepU.below hS).trans hk9))
      clear hw9 hb9 hk9
      go_wp2_with fail
      first | go_end0 | ((try simp only [Exit.inBlock, Exit.then]); refine bodyPost_ret (results_none rfl _ _ _) rfl ?_)
      refine ⟨rfl, v9, ?_, HBF.out, HK9.out⟩
      rw [HEN.out]
      have h9 := HW9.out
      simpa [List.append_assoc, Int.add_assoc] using h9
  | true =>
    have HX := Aside0.mk (show (if ex.size = 0 then ([] : List EntT) else [⟨⟨#[112, 97, 120]⟩, 5, ⟨#[]⟩, ex⟩]) = [⟨⟨#[112, 97, 120]⟩, 5, ⟨#[]⟩, ex⟩] from if_neg (fun e => (bne_iff_ne.1 HX0.out) ((qAy _).2 e)))
    go_wp2_with fail
    refine (qB0 w0.heap.size gw v xs c ⟨⟨#[112, 97, 120]⟩, 5, ⟨#[]⟩, ex⟩ Wn ⟨Tabs.below hT.out HB.out⟩ HW.out (by omega) (by show ex.size ≤ 1000000; omega) hc0 (by omega) hbase).mono ?_
    rintro e Wm ⟨rfl, vm, hwm, hbm, hkm⟩
    have HBm := Aside0.mk (qB7 HB.out hbm)
    have HGm := Aside0.mk (hkm gn _ _ (fun e => hgn e.symm) (by decide) HG.out)
    have HWm := Aside0.mk hwm
    have HKm := Aside0.mk (HKn.out.trans hkm)
    have hlm := qDo ⟨⟨#[112, 97, 120]⟩, 5, ⟨#[]⟩, ex⟩
    have hlm2 : (xs ++ entryB ⟨⟨#[112, 97, 120]⟩, 5, ⟨#[]⟩, ex⟩).length ≤ 1000000000 := by
      rw [List.length_append]
      have : (⟨⟨#[112, 97, 120]⟩, 5, ⟨#[]⟩, ex⟩ : EntT).data.size = ex.size := rfl
      omega
    clear hwm hbm hkm HB HG HW HKn z1 hlm
    have z1 := (show Wm.cell? ⟨gn, 1, none⟩ = some (.int .i64 n.f1) from (qAd HGm.out 1).trans rfl)
    cases b4 with
    | true =>
      go_wp2_with fail
      refine start_ (n := 10) (S := fun w' => Below Wm.heap.size Wm w') (ds := [9]) (bmG 10 0) (by kernel_rfl) rfl (by kernel_rfl) (qAc (Below.refl Wm.heap.size Wm)) (fun hS => ?_)
      generalize Wm.drew = wd at hS ⊢
      refine pure_ (i := 0) (N := some 15) (v := ?_) (a' := ?_) (bmG 10 1) rfl rfl (by kernel_rfl) (fun _ _ _ h => h) (Or.inl ⟨by rfl, ?_⟩) ?_ ?_
      rotate_left
      · intro w'
        go_simp
        with_reducible rfl
      rotate_left
      · simp only [Act.put, List.setIfInBounds_toArray, List.set_cons_zero, List.set_cons_succ, i64_w, i32_w]
        rfl
      refine take_ (i := 1) (N := some 16) (v := ?_) (a' := ?_) (bmG 10 3) rfl rfl (by kernel_rfl) (fun _ _ _ h => h) (Or.inl ⟨by rfl, ?_⟩) hS ?_ ?_
      rotate_left
      · intro w' hS
        have s0 := (show w'.cell? ⟨gn, 0, none⟩ = some (.string n.f0) from (qAd (qAg HGm.out hS) 0).trans rfl)
        have s1 := (show w'.cell? ⟨gn, 1, none⟩ = some (.int .i64 n.f1) from (qAd (qAg HGm.out hS) 1).trans rfl)
        have s2 := (show w'.cell? ⟨gn, 2, none⟩ = some (.string n.f2) from (qAd (qAg HGm.out hS) 2).trans rfl)
        go_simp
        with_reducible rfl
      rotate_left
      · simp only [Act.put, List.setIfInBounds_toArray, List.set_cons_zero, List.set_cons_succ, i64_w, i32_w]
        rfl
      refine pure_ (i := 4) (N := some 19) (v := ?_) (a' := ?_) (bmG 10 19) rfl rfl (by kernel_rfl) (fun _ _ _ h => h) (Or.inl ⟨by rfl, ?_⟩) ?_ ?_
      rotate_left
      · intro w'
        go_simp
        with_reducible rfl
      rotate_left
      · simp only [Act.put, List.setIfInBounds_toArray, List.set_cons_zero, List.set_cons_succ, i64_w, i32_w]
        rfl
      refine take_ (i := 5) (N := some 20) (v := ?_) (a' := ?_) (bmG 10 51) rfl rfl (by kernel_rfl) (fun _ _ _ h => h) (Or.inl ⟨by rfl, ?_⟩) hS ?_ ?_
      rotate_left
      · intro w' hS
        have s0 := (show w'.cell? ⟨gn, 0, none⟩ = some (.string n.f0) from (qAd (qAg HGm.out hS) 0).trans rfl)
        have s1 := (show w'.cell? ⟨gn, 1, none⟩ = some (.int .i64 n.f1) from (qAd (qAg HGm.out hS) 1).trans rfl)
        have s2 := (show w'.cell? ⟨gn, 2, none⟩ = some (.string n.f2) from (qAd (qAg HGm.out hS) 2).trans rfl)
        go_simp
        with_reducible rfl
      rotate_left
      · simp only [Act.put, List.setIfInBounds_toArray, List.set_cons_zero, List.set_cons_succ, i64_w, i32_w]
        rfl
      refine pure_ (i := 6) (N := some 21) (v := ?_) (a' := ?_) (bmG 10 115) rfl rfl (by kernel_rfl) (fun _ _ _ h => h) (Or.inl ⟨by rfl, ?_⟩) ?_ ?_
      rotate_left
      · intro w'
        go_simp
        with_reducible rfl
      rotate_left
      · simp only [Act.put, List.setIfInBounds_toArray, List.set_cons_zero, List.set_cons_succ, i64_w, i32_w]
        rfl
      refine take_ (i := 7) (N := some 22) (v := ?_) (a' := ?_) (bmG 10 243) rfl rfl (by kernel_rfl) (fun _ _ _ h => h) (Or.inl ⟨by rfl, ?_⟩) hS ?_ ?_
      rotate_left
      · intro w' hS
        have s0 := (show w'.cell? ⟨gn, 0, none⟩ = some (.string n.f0) from (qAd (qAg HGm.out hS) 0).trans rfl)
        have s1 := (show w'.cell? ⟨gn, 1, none⟩ = some (.int .i64 n.f1) from (qAd (qAg HGm.out hS) 1).trans rfl)
        have s2 := (show w'.cell? ⟨gn, 2, none⟩ = some (.string n.f2) from (qAd (qAg HGm.out hS) 2).trans rfl)
        go_simp
        with_reducible rfl
      rotate_left
      · simp only [Act.put, List.setIfInBounds_toArray, List.set_cons_zero, List.set_cons_succ, i64_w, i32_w]
        rfl
      refine one_ (i := 2) (N := some 17) (bmG 10 247) rfl rfl (by kernel_rfl) (by decide) (fun Kz hKz => ?_)
      refine goes_ Tryz.func61 (by kernel_rfl) rfl #[.agg #[.string n.f0, .int .i64 n.f1, .string n.f2]] (by rfl) rfl rfl (by (try simp only [List.map_toArray, List.map_cons, List.map_nil]); first | done | rfl) ?_
      refine (tar_name.calls n.f0 n.f1 n.f2 _ _ HN.out).mono ?_
      rintro e wc ⟨rfl, hb⟩
      refine ⟨_, rfl, ?_⟩
      refine hKz.out _ _ (qAe hS hb) (fun hS => ?_)
      clear hKz Kz
      refine norm_ (a' := ?_) ?_ ?_
      rotate_left
      · show Act.put _ (some 17) _ = _
        simp only [Act.put, List.setIfInBounds_toArray, List.set_cons_zero, List.set_cons_succ, i64_w, i32_w]
        rfl
      refine one_ (i := 3) (N := some 18) (bmG 10 255) rfl rfl (by kernel_rfl) (by decide) (fun Kz hKz => ?_)
      refine goes_ Tryz.func60 (by kernel_rfl) rfl #[.string (nameN n)] (by rfl) rfl rfl (by (try simp only [List.map_toArray, List.map_cons, List.map_nil]); first | done | rfl) ?_
      refine (tar_cut.calls (nameN n) _ _ HC1.out).mono ?_
      rintro e wc ⟨rfl, hb⟩
      refine ⟨_, rfl, ?_⟩
      refine hKz.out _ _ (qAe hS hb) (fun hS => ?_)
      clear hKz Kz
      refine norm_ (a' := ?_) ?_ ?_
      rotate_left
      · show Act.put _ (some 18) _ = _
        simp only [Act.put, List.setIfInBounds_toArray, List.set_cons_zero, List.set_cons_succ, i64_w, i32_w]
        rfl
      refine one_ (i := 8) (N := some 23) (bmG 10 511) rfl rfl (by kernel_rfl) (by decide) (fun Kz hKz => ?_)
      refine goes_ Tryz.func60 (by kernel_rfl) rfl #[.string n.f2] (by rfl) rfl rfl (by (try simp only [List.map_toArray, List.map_cons, List.map_nil]); first | done | rfl) ?_
      refine (tar_cut.calls n.f2 _ _ HC2.out).mono ?_
      rintro e wc ⟨rfl, hb⟩
      refine ⟨_, rfl, ?_⟩
      refine hKz.out _ _ (qAe hS hb) (fun hS => ?_)
      clear hKz Kz
      refine norm_ (a' := ?_) ?_ ?_
      rotate_left
      · show Act.put _ (some 23) _ = _
        simp only [Act.put, List.setIfInBounds_toArray, List.set_cons_zero, List.set_cons_succ, i64_w, i32_w]
        rfl
      refine last_ (i := 9) (N := some 24) (bmG 10 1023) rfl rfl (by kernel_rfl) (by decide) (fun Kz hKz => ?_)
      refine goes_ Tryz.func59 (by kernel_rfl) rfl #[.pointer (some ⟨gw, 0, none⟩), .string (cutS (nameN n)), .int .i64 n.f1, .string (cutS n.f2), .string ⟨#[]⟩] (by rfl) rfl rfl (by (try simp only [List.map_toArray, List.map_cons, List.map_nil]); first | done | rfl) ?_
      refine (qB0 w0.heap.size gw vm (xs ++ entryB ⟨⟨#[112, 97, 120]⟩, 5, ⟨#[]⟩, ex⟩) (c + 1) ⟨cutS (nameN n), n.f1, cutS n.f2, ⟨#[]⟩⟩ _ ⟨Tabs.below hT.out (qAe HBm.out hS)⟩ (HWm.out.below hS) (by omega) (show (0 : Nat) ≤ 1000000 from by decide) (by omega) (by omega) hbase).mono ?_
      rintro e wc ⟨rfl, v9, hw9, hb9, hk9⟩
      refine ⟨_, rfl, ?_⟩
      refine hKz.out _ _ ?_
      clear hKz Kz
      refine norm_ (a' := ?_) ?_ ?_
      rotate_left
      · show Act.put _ (some 24) _ = _
        simp only [Act.put, List.setIfInBounds_toArray, List.set_cons_zero, List.set_cons_succ, i64_w, i32_w]
        rfl
      refine done_ (by kernel_rfl) ?_
      have HEN := Aside0.mk (show entsN n = [⟨⟨#[112, 97, 120]⟩, 5, ⟨#[]⟩, ex⟩, ⟨cutS (nameN n), n.f1, cutS n.f2, ⟨#[]⟩⟩] from by
        unfold entsN
        rw [HEX.out, HX.out, show ownE n = ⟨cutS (nameN n), n.f1, cutS n.f2, ⟨#[]⟩⟩ from if_pos (by simpa using hb4)]
        rfl)
      have HBF := Aside0.mk (qB7 HBm.out (qD6 hS hb9 HBm.out.size))
      have HW9 := Aside0.mk hw9
      have HK9 := Aside0.mk (HKm.out.trans ((KeepU.below hS).trans hk9))
      clear hw9 hb9 hk9
      go_wp2_with fail
      first | go_end0 | ((try simp only [Exit.inBlock, Exit.then]); refine bodyPost_ret (results_none rfl _ _ _) rfl ?_)
      refine ⟨rfl, v9, ?_, HBF.out, HK9.out⟩
      rw [HEN.out]
      have h9 := HW9.out
      simpa [List.append_assoc, Int.add_assoc] using h9
    | false =>
      go_wp2_with fail
      refine start_ (n := 9) (S := fun w' => Below Wm.heap.size Wm w') (ds := [8]) (bmG 9 0) (by kernel_rfl) rfl (by kernel_rfl) (qAc (Below.refl Wm.heap.size Wm)) (fun hS => ?_)
      generalize Wm.drew = wd at hS ⊢
      refine pure_ (i := 0) (N := some 25) (v := ?_) (a' := ?_) (bmG 9 1) rfl rfl (by kernel_rfl) (fun _ _ _ h => h) (Or.inl ⟨by rfl, ?_⟩) ?_ ?_
      rotate_left
      · intro w'
        go_simp
        with_reducible rfl
      rotate_left
      · simp only [Act.put, List.setIfInBounds_toArray, List.set_cons_zero, List.set_cons_succ, i64_w, i32_w]
        rfl
      refine take_ (i := 1) (N := some 26) (v := ?_) (a' := ?_) (bmG 9 3) rfl rfl (by kernel_rfl) (fun _ _ _ h => h) (Or.inl ⟨by rfl, ?_⟩) hS ?_ ?_
      rotate_left
      · intro w' hS
        have s0 := (show w'.cell? ⟨gn, 0, none⟩ = some (.string n.f0) from (qAd (qAg HGm.out hS) 0).trans rfl)
        have s1 := (show w'.cell? ⟨gn, 1, none⟩ = some (.int .i64 n.f1) from (qAd (qAg HGm.out hS) 1).trans rfl)
        have s2 := (show w'.cell? ⟨gn, 2, none⟩ = some (.string n.f2) from (qAd (qAg HGm.out hS) 2).trans rfl)
        go_simp
        with_reducible rfl
      rotate_left
      · simp only [Act.put, List.setIfInBounds_toArray, List.set_cons_zero, List.set_cons_succ, i64_w, i32_w]
        rfl
      refine pure_ (i := 4) (N := some 29) (v := ?_) (a' := ?_) (bmG 9 19) rfl rfl (by kernel_rfl) (fun _ _ _ h => h) (Or.inl ⟨by rfl, ?_⟩) ?_ ?_
      rotate_left
      · intro w'
        go_simp
        with_reducible rfl
      rotate_left
      · simp only [Act.put, List.setIfInBounds_toArray, List.set_cons_zero, List.set_cons_succ, i64_w, i32_w]
        rfl
      refine take_ (i := 5) (N := some 30) (v := ?_) (a' := ?_) (bmG 9 51) rfl rfl (by kernel_rfl) (fun _ _ _ h => h) (Or.inl ⟨by rfl, ?_⟩) hS ?_ ?_
      rotate_left
      · intro w' hS
        have s0 := (show w'.cell? ⟨gn, 0, none⟩ = some (.string n.f0) from (qAd (qAg HGm.out hS) 0).trans rfl)
        have s1 := (show w'.cell? ⟨gn, 1, none⟩ = some (.int .i64 n.f1) from (qAd (qAg HGm.out hS) 1).trans rfl)
        have s2 := (show w'.cell? ⟨gn, 2, none⟩ = some (.string n.f2) from (qAd (qAg HGm.out hS) 2).trans rfl)
        go_simp
        with_reducible rfl
      rotate_left
      · simp only [Act.put, List.setIfInBounds_toArray, List.set_cons_zero, List.set_cons_succ, i64_w, i32_w]
        rfl
      refine pure_ (i := 6) (N := some 31) (v := ?_) (a' := ?_) (bmG 9 115) rfl rfl (by kernel_rfl) (fun _ _ _ h => h) (Or.inl ⟨by rfl, ?_⟩) ?_ ?_
      rotate_left
      · intro w'
        go_simp
        with_reducible rfl
      rotate_left
      · simp only [Act.put, List.setIfInBounds_toArray, List.set_cons_zero, List.set_cons_succ, i64_w, i32_w]
        rfl
      refine take_ (i := 7) (N := some 32) (v := ?_) (a' := ?_) (bmG 9 243) rfl rfl (by kernel_rfl) (fun _ _ _ h => h) (Or.inl ⟨by rfl, ?_⟩) hS ?_ ?_
      rotate_left
      · intro w' hS
        have s0 := (show w'.cell? ⟨gn, 0, none⟩ = some (.string n.f0) from (qAd (qAg HGm.out hS) 0).trans rfl)
        have s1 := (show w'.cell? ⟨gn, 1, none⟩ = some (.int .i64 n.f1) from (qAd (qAg HGm.out hS) 1).trans rfl)
        have s2 := (show w'.cell? ⟨gn, 2, none⟩ = some (.string n.f2) from (qAd (qAg HGm.out hS) 2).trans rfl)
        go_simp
        with_reducible rfl
      rotate_left
      · simp only [Act.put, List.setIfInBounds_toArray, List.set_cons_zero, List.set_cons_succ, i64_w, i32_w]
        rfl
      refine one_ (i := 2) (N := some 27) (bmG 9 247) rfl rfl (by kernel_rfl) (by decide) (fun Kz hKz => ?_)
      refine goes_ Tryz.func61 (by kernel_rfl) rfl #[.agg #[.string n.f0, .int .i64 n.f1, .string n.f2]] (by rfl) rfl rfl (by (try simp only [List.map_toArray, List.map_cons, List.map_nil]); first | done | rfl) ?_
      refine (tar_name.calls n.f0 n.f1 n.f2 _ _ HN.out).mono ?_
      rintro e wc ⟨rfl, hb⟩
      refine ⟨_, rfl, ?_⟩
      refine hKz.out _ _ (qAe hS hb) (fun hS => ?_)
      clear hKz Kz
      refine norm_ (a' := ?_) ?_ ?_
      rotate_left
      · show Act.put _ (some 27) _ = _
        simp only [Act.put, List.setIfInBounds_toArray, List.set_cons_zero, List.set_cons_succ, i64_w, i32_w]
        rfl
      refine one_ (i := 3) (N := some 28) (bmG 9 255) rfl rfl (by kernel_rfl) (by decide) (fun Kz hKz => ?_)
      refine goes_ Tryz.func60 (by kernel_rfl) rfl #[.string (nameN n)] (by rfl) rfl rfl (by (try simp only [List.map_toArray, List.map_cons, List.map_nil]); first | done | rfl) ?_
      refine (tar_cut.calls (nameN n) _ _ HC1.out).mono ?_
      rintro e wc ⟨rfl, hb⟩
      refine ⟨_, rfl, ?_⟩
      refine hKz.out _ _ (qAe hS hb) (fun hS => ?_)
      clear hKz Kz
      refine norm_ (a' := ?_) ?_ ?_
      rotate_left
      · show Act.put _ (some 28) _ = _
        simp only [Act.put, List.setIfInBounds_toArray, List.set_cons_zero, List.set_cons_succ, i64_w, i32_w]
        rfl
      refine last_ (i := 8) (N := some 33) (bmG 9 511) rfl rfl (by kernel_rfl) (by decide) (fun Kz hKz => ?_)
      refine goes_ Tryz.func59 (by kernel_rfl) rfl #[.pointer (some ⟨gw, 0, none⟩), .string (cutS (nameN n)), .int .i64 n.f1, .string ⟨#[]⟩, .string n.f2] (by rfl) rfl rfl (by (try simp only [List.map_toArray, List.map_cons, List.map_nil]); first | done | rfl) ?_
      refine (qB0 w0.heap.size gw vm (xs ++ entryB ⟨⟨#[112, 97, 120]⟩, 5, ⟨#[]⟩, ex⟩) (c + 1) ⟨cutS (nameN n), n.f1, ⟨#[]⟩, n.f2⟩ _ ⟨Tabs.below hT.out (qAe HBm.out hS)⟩ (HWm.out.below hS) (by omega) (by show n.f2.size ≤ 1000000; omega) (by omega) (by omega) hbase).mono ?_
      rintro e wc ⟨rfl, v9, hw9, hb9, hk9⟩
      refine ⟨_, rfl, ?_⟩
      refine hKz.out _ _ ?_
      clear hKz Kz
      refine norm_ (a' := ?_) ?_ ?_
      rotate_left
      · show Act.put _ (some 33) _ = _
        simp only [Act.put, List.setIfInBounds_toArray, List.set_cons_zero, List.set_cons_succ, i64_w, i32_w]
        rfl
      refine done_ (by kernel_rfl) ?_
      have HEN := Aside0.mk (show entsN n = [⟨⟨#[112, 97, 120]⟩, 5, ⟨#[]⟩, ex⟩, ⟨cutS (nameN n), n.f1, ⟨#[]⟩, n.f2⟩] from by
        unfold entsN
        rw [HEX.out, HX.out, show ownE n = ⟨cutS (nameN n), n.f1, ⟨#[]⟩, n.f2⟩ from if_neg (by simpa using hb4)]
        rfl)
      have HBF := Aside0.mk (qB7 HBm.out (qD6 hS hb9 HBm.out.size))
      have HW9 := Aside0.mk hw9
      have HK9 := Aside0.mk (HKm.out.trans ((KeepU.below hS).trans hk9))
      clear hw9 hb9 hk9
      go_wp2_with fail
      first | go_end0 | ((try simp only [Exit.inBlock, Exit.then]); refine bodyPost_ret (results_none rfl _ _ _) rfl ?_)
      refine ⟨rfl, v9, ?_, HBF.out, HK9.out⟩
      rw [HEN.out]
      have h9 := HW9.out
      simpa [List.append_assoc, Int.add_assoc] using h9
end Go.Proofs.YtdijnmcfpbceaaaGreatDoor.X

namespace Go.Proofs.YtdijnmcfpbceaaaGreatDoor.X
open Go.RowKit Go.Proofs.YtdijnmcfpbceaaaGreatDoorW.PrintWords Go.Proofs.YtdijnmcfpbceaaaGreatDoorW.PrintLast Go.Proofs.YtdijnmcfpbceaaaGreatDoorW.PrintMore Go.Proofs.YtdijnmcfpbceaaaGreatDoor.P
set_option linter.unusedVariables false
set_option linter.unusedSimpArgs false
theorem qDe : ∀ (l ahead : List S47), treeR ahead l = true → (∀ n ∈ l, goodN n = true) ∧ ahead.length + l.length ≤ max 400 ahead.length
  | [], ahead, _ => ⟨fun n h => (by cases h), (by simp only [List.length_nil]; omega)⟩
  | n :: l, ahead, h => by
    unfold treeR at h
    rw [Bool.and_eq_true, Bool.and_eq_true, Bool.and_eq_true, decide_eq_true_eq] at h
    obtain ⟨⟨⟨h1, h2⟩, _⟩, h3⟩ := h
    obtain ⟨i1, i2⟩ := qDe l (ahead ++ [n]) h3
    refine ⟨fun m hm => ?_, ?_⟩
    · rcases List.mem_cons.1 hm with rfl | hm
      · exact h2
      · exact i1 m hm
    · rw [List.length_append, List.length_singleton] at i2
      rw [List.length_cons]
      omega
theorem qBi {t : List S47} (h : treeB t = true) : (∀ n ∈ t, n.f0.size ≤ 200 ∧ n.f2.size ≤ 400) ∧ t.length ≤ 400 := by
  unfold treeB at h
  rw [Bool.and_eq_true] at h
  obtain ⟨h1, h2⟩ := qDe t [] h.2
  refine ⟨fun n hn => ?_, by simpa using h2⟩
  have hg := h1 n hn
  unfold goodN at hg
  rw [Bool.and_eq_true, Bool.and_eq_true, decide_eq_true_eq] at hg
  exact ⟨qB6 hg.1.1, hg.1.2⟩
theorem qEy (n : S47) (h0 : n.f0.size ≤ 1000) (h2 : n.f2.size ≤ 1000) : (entsN n).length ≤ 2 ∧ ((entsN n).flatMap entryB).length ≤ 16000 := by
  have hx := qEi n h0 h2
  have ho : (ownE n).data.size ≤ 1000 := by
    unfold ownE
    split
    · exact (by decide : (0 : Nat) ≤ 1000)
    · exact h2
  have h3 := qDo (ownE n)
  have h4 := qDo ⟨⟨#[112, 97, 120]⟩, 5, ⟨#[]⟩, extraN n⟩
  have h5 : (⟨⟨#[112, 97, 120]⟩, 5, ⟨#[]⟩, extraN n⟩ : EntT).data.size = (extraN n).size := rfl
  unfold entsN
  split
  · refine ⟨by simp, ?_⟩
    simp only [List.nil_append, List.flatMap_cons, List.flatMap_nil, List.append_nil]
    omega
  · refine ⟨by simp, ?_⟩
    simp only [List.cons_append, List.nil_append, List.flatMap_cons, List.flatMap_nil, List.append_nil, List.length_append]
    omega
set_option maxHeartbeats 4000000 in
set_option maxRecDepth 100000 in
theorem qHp (A0 : Option Addr) (c0 : Nat) (t : List S47) (w : World) (hT : Aside0 (Tabs w)) (hC : Kd.C k47 w A0 t.length t) (hc : t.length ≤ c0) (hn : treeB t = true) :
    Calls Tryz.prog 29 #[.slice A0 t.length c0] w fun e w' => ∃ gw v, e = .returned (.pointer (some ⟨gw, 0, none⟩)) ∧ WrAt w' w.heap.size gw v ((entsT t).flatMap entryB) ((entsT t).length : Nat) ∧ Below w.heap.size w w' := by
  have X := Aside0.mk hC
  have HG := Aside0.mk (qBi hn)
  clear hC hn
  have HBn := Aside0.mk (qAb (Below.refl w.heap.size w) (.cells #[.slice none 0 0, .int .i64 0] 56))
  have HZn := Aside0.mk (qA7 w (.cells #[.slice none 0 0, .int .i64 0] 56))
  go_enter Tryz.func29, Tryz.ntmps29
  go_wp2_with fail
  have hgs : w.heap.size ≤ w.heap.size := Nat.le_refl _
  go_loopw [13] (fun v13 wr => ∃ (i : Nat) (v : Value) (xs : List Int) (c : Nat), v13 = .int .i64 i ∧ i ≤ t.length ∧ xs.length ≤ 16000 * i ∧ c ≤ 2 * i ∧ Aside0 (xs = (entsT (t.take i)).flatMap entryB ∧ c = (entsT (t.take i)).length) ∧ Aside0 (WrAt wr w.heap.size w.heap.size v xs (c : Nat)) ∧ Aside0 (Below w.heap.size w wr)) (fun a _ => t.length - (intOf a).toNat)
  case atStart => exact ⟨0, _, [], 0, rfl, by omega, by simp, by omega, ⟨rfl, rfl⟩, ⟨⟨HZn.out, ⟨rfl, .inl ⟨rfl, rfl⟩⟩⟩⟩, HBn⟩
  case round =>
    clear HBn HZn
    obtain ⟨i, v, xs, c, rfl, hi, hxl, hcl, HXS, HW, HB⟩ := hrel
    have h400 := HG.out.2
    by_cases hil : i < t.length
    · have hic : decide ((i : Int) < (t.length : Int)) = true := decide_eq_true (by omega)
      have hi0 : 0 ≤ (i : Int) := by omega
      obtain ⟨ad, rfl, z0, z1, z2⟩ := at_T47 (Kd.C_below X.out HB.out) (i : Int) (by omega) (by omega)
      simp only [Int.toNat_natCast] at z0 z1 z2
      have HX := Aside0.mk (qCw t i hil)
      have HS := Aside0.mk (HG.out.1 t[i] (List.getElem_mem _))
      rw [← HX.out] at HS
      generalize rd_T47 t (i : Int) = x at *
      obtain ⟨hs0, hs2⟩ := HS.out
      have hbd := qEy x (by omega) (by omega)
      have HWn := Aside0.mk (HW.out.below (qAb (Below.refl wr.heap.size wr) (.cells #[.string x.f0, .int .i64 x.f1, .string x.f2] 47)))
      have HBn := Aside0.mk (qAb HB.out (.cells #[.string x.f0, .int .i64 x.f1, .string x.f2] 47))
      go_wp2_with fail
      refine (qHl w w.heap.size v xs (c : Nat) x _ hT HBn.out HWn.out (by omega) (by omega) (by omega) (by omega) (by omega) hgs).mono ?_
      rintro e w5 ⟨rfl, v5, hw5, hb5, _⟩
      have HW5 := Aside0.mk hw5
      have HB5 := Aside0.mk hb5
      have HXS5 := Aside0.mk (show xs ++ (entsN x).flatMap entryB = (entsT (t.take (i + 1))).flatMap entryB ∧ c + (entsN x).length = (entsT (t.take (i + 1))).length from by
        rw [List.take_succ_eq_append_getElem hil, ← HX.out]
        unfold entsT
        rw [List.flatMap_append, List.flatMap_append, List.length_append]
        have h1 := HXS.out
        unfold entsT at h1
        simp only [List.flatMap_cons, List.flatMap_nil, List.append_nil]
        exact ⟨by rw [← h1.1], by rw [← h1.2]⟩)
      clear hw5 hb5 HW HB HWn HBn HXS z0 z1 z2
      go_wp2_with fail
      refine ⟨⟨i + 1, v5, _, c + (entsN x).length, by simp, by omega, ?_, by omega, HXS5, HW5, HB5⟩, by simp only [intOf]; omega⟩
      rw [List.length_append]
      omega
    · have hic : decide ((i : Int) < (t.length : Int)) = false := decide_eq_false (by omega)
      have hi2 : i = t.length := by omega
      subst hi2
      have HF := Aside0.mk (show xs = (entsT t).flatMap entryB ∧ c = (entsT t).length from by
        have := HXS.out
        rw [List.take_length] at this
        exact this)
      clear HXS hil hi
      go_wp2_with fail
      go_ret
      refine ⟨w.heap.size, v, rfl, ?_, HB.out⟩
      rw [← HF.out.1, ← HF.out.2]
      exact HW.out
theorem qCr : ∀ (t : List S47), (∀ n ∈ t, n.f0.size ≤ 200 ∧ n.f2.size ≤ 400) → ((entsT t).flatMap entryB).length ≤ 16000 * t.length
  | [], _ => by simp [entsT]
  | n :: t, h => by
    obtain ⟨a, b⟩ := h n List.mem_cons_self
    have h1 := (qEy n (by omega) (by omega)).2
    have h2 := qCr t (fun m hm => h m (List.mem_cons_of_mem _ hm))
    unfold entsT at h2 ⊢
    rw [List.flatMap_cons, List.flatMap_append, List.length_append, List.length_cons]
    omega
set_option maxHeartbeats 4000000 in
set_option maxRecDepth 100000 in
theorem qBn (A0 : Option Addr) (c0 : Nat) (t : List S47) (w : World) (hT : Aside0 (Tabs w)) (hC : Kd.C k47 w A0 t.length t) (hc : t.length ≤ c0) (hn : t.length ≤ 100000) :
    Calls Tryz.prog 10 #[.slice A0 t.length c0] w fun e w' => ∃ v, e = .returned (.tuple #[v, .int .i64 (tarR t).2]) ∧ w'.ownsRow w.heap.size 5 1 v (tarR t).1.length (nums .u8 (tarR t).1) ∧ Below w.heap.size w w' := by
  have X := Aside0.mk hC
  clear hC
  go_enter Tryz.func10, Tryz.ntmps10
  go_wp2_with fail
  refine (qE5 A0 c0 t w hT X.out hc hn).mono ?_
  rintro e w1 ⟨rfl, hb1⟩
  have HB1 := Aside0.mk hb1
  clear hb1
  obtain ⟨bt, hbt⟩ : ∃ b, treeB t = b := ⟨_, rfl⟩
  have HBT := Aside0.mk hbt
  rw [hbt]
  clear hbt
  cases bt with
  | false =>
    have HR := Aside0.mk (show tarR t = ([], 7) from by unfold tarR; rw [if_neg (by rw [HBT.out]; simp)])
    go_wp2_with fail
    go_ret2
    rw [HR.out]
    exact ⟨.slice none 0 0, rfl, ⟨rfl, .inl ⟨rfl, rfl⟩⟩, HB1.out⟩
  | true =>
    have HR := Aside0.mk (show tarR t = (tarB t, 0) from by unfold tarR; rw [if_pos HBT.out])
    go_wp2_with fail
    refine (qHp A0 c0 t w1 ⟨Tabs.below hT.out HB1.out⟩ (Kd.C_below X.out HB1.out) hc HBT.out).mono ?_
    rintro e w2 ⟨gw, v, rfl, hw2, hb2⟩
    have HB2 := Aside0.mk (qAe HB1.out hb2)
    have z0 := (show w2.cell? ⟨gw, 0, none⟩ = some v from (qAd hw2.cell 0).trans rfl)
    have HW2 := Aside0.mk (qDj hw2.row HB1.out.size)
    clear hw2 hb2
    have hfb := qCr t (qBi HBT.out).1
    have h400 := (qBi HBT.out).2
    have HTB := Aside0.mk (show tarB t = (entsT t).flatMap entryB ++ List.replicate 1024 0 from rfl)
    generalize (entsT t).flatMap entryB = zs at *
    go_wp2_with (at_builtin; refine qCf (w0 := w) w.heap.size rfl (.tmp 11) (.const (.int .i64 1024)) 26 3 5 rfl Tryz.underlying26 Tryz.underlying3 (by kernel_rfl) v 0 zs .i64 1024 rfl rfl HW2.out HB2.out HB2.out.size (by omega) ?_; intro v5 w5 ho5 hb5 _; rw [← HTB.out] at ho5; have HO5 := Aside0.mk ho5; have HB5 := Aside0.mk hb5; clear ho5 hb5)
    go_ret2
    rw [HR.out]
    exact ⟨v5, rfl, HO5.out, HB5.out⟩
end Go.Proofs.YtdijnmcfpbceaaaGreatDoor.X

namespace Go.Proofs.YtdijnmcfpbceaaaGreatDoor.X
open Go.RowKit Go.Proofs.YtdijnmcfpbceaaaGreatDoorW.PrintWords Go.Proofs.YtdijnmcfpbceaaaGreatDoorW.PrintLast Go.Proofs.YtdijnmcfpbceaaaGreatDoorW.PrintMore Go.Proofs.YtdijnmcfpbceaaaGreatDoor.P
set_option linter.unusedVariables false
set_option linter.unusedSimpArgs false
def blkN (n : Nat) : Nat := (n + 511) / 512
theorem qJv (n : Nat) : n + padN n = 512 * blkN n := by
  unfold padN blkN
  omega
theorem qFx (c x : UInt8) : ∀ ps : List (List UInt8), x ∈ joinL c ps → x = c ∨ ∃ p ∈ ps, x ∈ p
  | [], h => by cases h
  | [p], h => .inr ⟨p, by simp, h⟩
  | p :: q :: r, h => by
    have h : x ∈ p ++ c :: joinL c (q :: r) := h
    rcases List.mem_append.1 h with h | h
    · exact .inr ⟨p, by simp, h⟩
    · rcases List.mem_cons.1 h with h | h
      · exact .inl h
      · rcases qFx c x (q :: r) h with h | ⟨y, hy, h⟩
        · exact .inl h
        · exact .inr ⟨y, List.mem_cons_of_mem _ hy, h⟩
theorem qI6 {s : List UInt8} (h : pathB s = true) : (0 : UInt8) ∉ s := by
  intro h0
  unfold pathB at h
  rw [Bool.or_eq_true, decide_eq_true_eq] at h
  rcases h with rfl | h
  · cases h0
  · rw [Bool.and_eq_true, Bool.and_eq_true, List.all_eq_true] at h
    rw [← qCq 47 s] at h0
    rcases qFx 47 0 _ h0 with e | ⟨p, hp, h1⟩
    · exact absurd e (by decide)
    · have h2 := h.1.2 p hp
      unfold partB at h2
      simp only [Bool.and_eq_true, decide_eq_true_eq] at h2
      exact h2.1.1.1.2 h1
theorem qEn (s : ByteArray) : (cutS s).data.toList = s.data.toList.take (min s.size 100) := by
  unfold cutS
  rw [ByteArray.data_extract, Array.toList_extract]
  simp [List.extract]
theorem qF8 (s : ByteArray) : (cutS s).size = min s.size 100 := by
  rw [← qAh, qEn, List.length_take, qAh]
  omega
theorem qG4 {s : ByteArray} (h : (0 : UInt8) ∉ s.data.toList) : (0 : UInt8) ∉ (cutS s).data.toList := by
  rw [qEn]
  exact fun h1 => h (List.mem_of_mem_take h1)
theorem qBd {n : S47} (h : goodN n = true) : pathB n.f0.data.toList = true ∧ n.f2.size ≤ 400 ∧ ((n.f1 = 1 ∧ n.f2.size = 0) ∨ n.f1 = 2 ∨ n.f1 = 3 ∨ (n.f1 = 4 ∧ n.f2.size ≠ 0 ∧ (0 : UInt8) ∉ n.f2.data.toList)) := by
  unfold goodN at h
  rw [Bool.and_eq_true, Bool.and_eq_true, decide_eq_true_eq] at h
  obtain ⟨⟨h1, h2⟩, h3⟩ := h
  refine ⟨h1, h2, ?_⟩
  split at h3
  · rename_i e
    exact .inl ⟨e, of_decide_eq_true h3⟩
  · split at h3
    · rename_i e
      rcases e with e | e
      · exact .inr (.inl e)
      · exact .inr (.inr (.inl e))
    · split at h3
      · rename_i e
        rw [Bool.and_eq_true, decide_eq_true_eq, decide_eq_true_eq] at h3
        exact .inr (.inr (.inr ⟨e, h3.1, h3.2⟩))
      · cases h3
theorem qCn {n : S47} (h : goodN n = true) : (nameN n).size ≠ 0 ∧ (0 : UInt8) ∉ (nameN n).data.toList ∧ (nameN n).size ≤ 200 ∧ (100 < (nameN n).size ↔ 100 < n.f0.size) ∧ (100 < n.f0.size → nameN n = n.f0) := by
  have hp := qI6 (qBd h).1
  have hs := qB6 (qBd h).1
  unfold nameN
  split
  · rename_i e
    have e1 : (⟨#[46]⟩ : ByteArray).size = 1 := rfl
    rw [e1]
    exact ⟨by omega, by decide, by omega, by omega, by omega⟩
  · rename_i e
    exact ⟨e, hp, hs, Iff.rfl, fun _ => rfl⟩
theorem qIb {n : S47} (h : goodN n = true) : MayR (ownE n).name (ownE n).kind ((ownE n).data.size : Int) (ownE n).link ∧ (ownE n).data.size ≤ 400 := by
  obtain ⟨h1, h2, h3⟩ := qBd h
  obtain ⟨g1, g2, g3, _⟩ := qCn h
  have c1 := qF8 (nameN n)
  have c2 := qG4 g2
  have a1 : (cutS (nameN n)).size ≠ 0 := by omega
  have a2 : (cutS (nameN n)).size ≤ 100 := by omega
  generalize hcn : cutS (nameN n) = cn at *
  have e0 : (⟨#[]⟩ : ByteArray).size = 0 := rfl
  have e1 : (0 : UInt8) ∉ (⟨#[]⟩ : ByteArray).data.toList := by decide
  generalize hem : (⟨#[]⟩ : ByteArray) = em at e0 e1
  have eo : ownE n = if n.f1 = 4 then ⟨cn, n.f1, cutS n.f2, em⟩ else ⟨cn, n.f1, em, n.f2⟩ := by rw [← hem, ← hcn]; rfl
  rw [eo]
  clear eo hem hcn
  by_cases e : n.f1 = 4
  · rw [if_pos e]
    obtain ⟨k2, k3⟩ : n.f2.size ≠ 0 ∧ (0 : UInt8) ∉ n.f2.data.toList := by
      rcases h3 with ⟨k, _⟩ | k | k | ⟨_, k2, k3⟩
      · omega
      · omega
      · omega
      · exact ⟨k2, k3⟩
    have c3 := qF8 n.f2
    have c4 := qG4 k3
    have b1 : (cutS n.f2).size ≠ 0 := by omega
    have b2 : (cutS n.f2).size ≤ 100 := by omega
    generalize cutS n.f2 = cl at *
    exact ⟨⟨a1, a2, c2, b2, c4, by show 1 ≤ n.f1; omega, by show n.f1 ≤ 5; omega, ⟨fun _ => b1, fun _ => e⟩, .inl (by show (em.size : Int) = 0; omega)⟩, by show em.size ≤ 400; omega⟩
  · rw [if_neg e]
    have k5 : 1 ≤ n.f1 ∧ n.f1 ≤ 5 ∧ ((n.f2.size : Int) = 0 ∨ (n.f1 ≠ 1 ∧ n.f1 ≠ 4)) := by
      rcases h3 with ⟨k, k2⟩ | k | k | ⟨k, _⟩
      · exact ⟨by omega, by omega, .inl (by omega)⟩
      · exact ⟨by omega, by omega, .inr ⟨by omega, by omega⟩⟩
      · exact ⟨by omega, by omega, .inr ⟨by omega, by omega⟩⟩
      · exact absurd k e
    exact ⟨⟨a1, a2, c2, by show em.size ≤ 100; omega, e1, k5.1, k5.2.1, ⟨fun k => absurd k e, fun k => absurd e0 k⟩, k5.2.2⟩, h2⟩
theorem qH9 (n : Nat) : MayR ⟨#[112, 97, 120]⟩ 5 (n : Int) ⟨#[]⟩ :=
  ⟨by decide, by decide, by decide, by decide, by decide, by decide, by decide, by decide, .inr ⟨by decide, by decide⟩⟩
theorem qF5 {e : EntT} (h : MayR e.name e.kind (e.data.size : Int) e.link) (hs : e.data.size ≤ 10000) : (entryB e).length = 512 * (1 + blkN e.data.size) := by
  have h1 := qJv e.data.size
  unfold entryB
  rw [List.length_append, List.length_append, List.length_replicate, qAz]
  unfold layR
  rw [if_pos ⟨h, by omega, by rw [Int.toNat_natCast]; omega⟩, qBy _ _ _ _ h.2.1 h.2.2.2.1]
  omega
theorem qB5 (key value : ByteArray) (h : key.size + value.size ≤ 800000) : key.size + value.size + 4 ≤ (recT key value).size ∧ (recT key value).size ≤ key.size + value.size + 10 := by
  rw [qE8, ByteArray.size_append, qC9, qCm]
  have h1 := (qCl (key.size + value.size + 3) (by omega)).1
  have h2 := qDi (key.size + value.size + 3) (by omega)
  omega
def pathS : ByteArray := ⟨#[112, 97, 116, 104]⟩
def linkS : ByteArray := ⟨#[108, 105, 110, 107, 112, 97, 116, 104]⟩
def longN (n : S47) : Bool := decide (100 < n.f0.size) || (decide (n.f1 = 4) && decide (100 < n.f2.size))
def twiceN (n : S47) : Bool := decide (n.f1 = 4) && decide (100 < n.f0.size) && decide (100 < n.f2.size) && decide (512 < (recT pathS n.f0).size + (recT linkS n.f2).size)
def headN (n : S47) : Nat := 1 + if longN n = true then 1 else 0
def qGv (n : S47) : Nat := (if n.f1 = 4 then 0 else blkN n.f2.size) + (if longN n = true then 1 else 0) + (if twiceN n = true then 1 else 0)
theorem qI8 (n : S47) : blkN (ownE n).data.size = if n.f1 = 4 then 0 else blkN n.f2.size := by
  unfold ownE
  split
  · show (0 + 511) / 512 = 0
    rfl
  · rfl
theorem qDn {n : S47} (h : goodN n = true) : if longN n = true then (extraN n).size ≠ 0 ∧ (extraN n).size ≤ 1024 ∧ blkN (extraN n).size = 1 + (if twiceN n = true then 1 else 0) else (extraN n).size = 0 ∧ twiceN n = false := by
  obtain ⟨h1, h2, h3⟩ := qBd h
  obtain ⟨g1, g2, g3, g4, g5⟩ := qCn h
  have hs := qB6 h1
  have e0 : (⟨#[]⟩ : ByteArray).size = 0 := rfl
  have e4 : pathS.size = 4 := rfl
  have e8 : linkS.size = 8 := rfl
  have r1 := qB5 pathS (nameN n) (by omega)
  have r2 := qB5 linkS n.f2 (by omega)
  have hx : extraN n = (if 100 < (nameN n).size then recT pathS (nameN n) else ⟨#[]⟩) ++ (if n.f1 = 4 ∧ 100 < n.f2.size then recT linkS n.f2 else ⟨#[]⟩) := rfl
  rw [hx, ByteArray.size_append]
  unfold longN twiceN blkN
  clear hx
  by_cases p : 100 < n.f0.size
  · have e5 := g5 p
    rw [← e5] at p ⊢
    by_cases k : n.f1 = 4
    · by_cases q : 100 < n.f2.size
      · simp only [p, k, q, if_true, and_self, decide_true, Bool.true_and, Bool.and_true, Bool.true_or, decide_eq_true_eq]
        refine ⟨by omega, by omega, ?_⟩
        split <;> omega
      · simp only [p, k, q, if_true, if_false, and_false, decide_true, decide_false, Bool.true_and, Bool.and_true, Bool.true_or, Bool.and_false, Bool.false_and, e0, Bool.false_eq_true]
        refine ⟨by omega, by omega, by omega⟩
    · simp only [p, k, if_true, if_false, false_and, decide_true, decide_false, Bool.true_and, Bool.and_true, Bool.true_or, Bool.and_false, Bool.false_and, e0, Bool.false_eq_true]
      refine ⟨by omega, by omega, by omega⟩
  · have p' : ¬ 100 < (nameN n).size := fun x => p (g4.1 x)
    by_cases k : n.f1 = 4
    · by_cases q : 100 < n.f2.size
      · simp only [p, p', k, q, if_true, if_false, and_self, decide_true, decide_false, Bool.true_and, Bool.and_true, Bool.or_true, Bool.and_false, Bool.false_and, e0, Bool.false_eq_true]
        refine ⟨by omega, by omega, by omega⟩
      · simp only [p, p', k, q, if_true, if_false, and_false, decide_true, decide_false, Bool.true_and, Bool.and_true, Bool.or_false, Bool.and_false, Bool.false_and, e0, Bool.false_eq_true]
        trivial
    · simp only [p, p', k, if_true, if_false, false_and, decide_true, decide_false, Bool.true_and, Bool.and_true, Bool.or_false, Bool.and_false, Bool.false_and, e0, Bool.false_eq_true]
      trivial
theorem qF4 {n : S47} (h : goodN n = true) : (entsN n).length = headN n ∧ ((entsN n).flatMap entryB).length = 512 * (headN n + qGv n) := by
  obtain ⟨m1, m2⟩ := qIb h
  have l1 := qF5 m1 (by omega)
  rw [qI8] at l1
  have hx := qDn h
  unfold entsN headN qGv
  by_cases hl : longN n = true
  · rw [if_pos hl] at hx
    obtain ⟨x1, x2, x3⟩ := hx
    have l2 := qF5 (e := ⟨⟨#[112, 97, 120]⟩, 5, ⟨#[]⟩, extraN n⟩) (qH9 _) (by show (extraN n).size ≤ 10000; omega)
    have l2' : (entryB ⟨⟨#[112, 97, 120]⟩, 5, ⟨#[]⟩, extraN n⟩).length = 512 * (1 + blkN (extraN n).size) := l2
    rw [x3] at l2'
    rw [if_neg x1, if_pos hl]
    refine ⟨rfl, ?_⟩
    simp only [List.cons_append, List.nil_append, List.flatMap_cons, List.flatMap_nil, List.append_nil, List.length_append]
    omega
  · rw [if_neg hl] at hx
    obtain ⟨x1, x2⟩ := hx
    rw [if_pos x1, if_neg hl, x2]
    refine ⟨rfl, ?_⟩
    simp only [List.nil_append, List.flatMap_cons, List.flatMap_nil, List.append_nil]
    rw [l1]
    simp only [Bool.false_eq_true, if_false]
    omega
def sumH (t : List S47) : Nat := (t.map headN).sum
def sumK (t : List S47) : Nat := (t.map qGv).sum
theorem qG3 : ∀ (t : List S47), (∀ n ∈ t, goodN n = true) → (entsT t).length = sumH t ∧ ((entsT t).flatMap entryB).length = 512 * (sumH t + sumK t)
  | [], _ => ⟨rfl, rfl⟩
  | n :: t, h => by
    obtain ⟨a, b⟩ := qF4 (h n List.mem_cons_self)
    obtain ⟨c, d⟩ := qG3 t (fun m hm => h m (List.mem_cons_of_mem _ hm))
    simp only [entsT, sumH, sumK] at c d ⊢
    rw [List.flatMap_cons, List.flatMap_append, List.length_append, List.length_append, List.map_cons, List.map_cons, List.sum_cons, List.sum_cons]
    exact ⟨by omega, by omega⟩
theorem qBh {t : List S47} (h : treeB t = true) : ∀ n ∈ t, goodN n = true := by
  unfold treeB at h
  rw [Bool.and_eq_true] at h
  exact (qDe t [] h.2).1
theorem qI1 {t : List S47} (h : treeB t = true) : (tarB t).length = 512 * (sumH t + sumK t + 2) ∧ (entsT t).length = sumH t := by
  obtain ⟨a, b⟩ := qG3 t (qBh h)
  unfold tarB
  rw [List.length_append, List.length_replicate]
  exact ⟨by omega, a⟩
end Go.Proofs.YtdijnmcfpbceaaaGreatDoor.X

namespace Go.Proofs.YtdijnmcfpbceaaaGreatDoor.P
open Go.Proofs.YtdijnmcfpbceaaaGreatDoor.X
open Go.RowKit Go.Proofs.YtdijnmcfpbceaaaGreatDoorW.PrintWords Go.Proofs.YtdijnmcfpbceaaaGreatDoorW.PrintLast Go.Proofs.YtdijnmcfpbceaaaGreatDoorW.PrintMore
attribute [local go_sem] qAr qAu
set_option linter.unusedVariables false
set_option linter.unusedSimpArgs false
def head_field.f (l0 : List Int) : Option (ByteArray) := (strings_Cut.f (strOfNums l0) (⟨#[0]⟩ : ByteArray)).bind fun bt185 => (some bt185.1)
set_option maxHeartbeats 8000000 in
set_option maxRecDepth 100000 in
theorem head_field.calls (A0 : Option Addr) (c0 : Nat) (l0 : List Int) (r : ByteArray) (w : World) (hT : Aside0 (Tabs w)) (hr0 : Kd.C (Kd.int .u8) w A0 l0.length l0) (hc0 : l0.length ≤ c0) (h : head_field.f l0 = some r) :
  Calls Tryz.prog 91 #[.slice A0 l0.length c0] w fun e w' => e = .returned (.string r) ∧ Drawn0 w w' := by
 have HR0 := Aside0.mk hr0
 have HC0 := Aside0.mk hc0
 clear hr0 hc0
 have H : ((strings_Cut.f (strOfNums l0) (⟨#[0]⟩ : ByteArray)).bind fun bt185 => (some bt185.1)) = some r := h
 clear h
 replace H := Option.bind_eq_some_iff.mp H
 obtain ⟨⟨t185, t186, t187⟩, A20, H⟩ := H
 replace H : (some t185) = some r := H
 have A2 := Aside0.mk A20
 clear A20
 obtain rfl := Option.some.inj H
 have hcv3 := Kd.C_string (P := Tryz.prog) (A := A0) (c := c0) Tryz.underlying26 Tryz.underlying5 Tryz.underlying9 HR0.out
 have hcvq4 := qA9 (P := Tryz.prog) (A := A0) (c := c0) Tryz.underlying26 Tryz.underlying5 Tryz.underlying9 HR0.out
 go_enter Tryz.func91, Tryz.ntmps91
 go_wp2_with (first | ((with_reducible refine qAs (f := 94) rfl ?_); refine goesL_ (some 9) rfl rfl Tryz.func94 (by kernel_rfl) rfl #[.string (strOfNums l0), .string (⟨#[0]⟩ : ByteArray)] rfl (by (try simp only [List.map_toArray, List.map_cons, List.map_nil]); first | done | rfl | (simp only [List.length_drop, List.length_take]; rfl)) ?_; (with_reducible refine (strings_Cut.calls (strOfNums l0) (⟨#[0]⟩ : ByteArray) t185 t186 t187 _ ?side1 A2.out).mono ?_); (case side1 => exact ⟨Tabs.drawn hT.out (by repeat (first | exact Drawn0.refl _ | apply Drawn0.step))⟩); rintro e w' ⟨rfl, ⟨nd, rfl⟩⟩; refine ⟨_, rfl, ?_⟩))
 go_ret
 exact ⟨by first | rfl | (simp; done) | (simp [*]; done), by repeat (first | exact Drawn0.refl _ | apply Drawn0.step)⟩
end Go.Proofs.YtdijnmcfpbceaaaGreatDoor.P

namespace Go.Proofs.YtdijnmcfpbceaaaGreatDoor.P
open Go.Proofs.YtdijnmcfpbceaaaGreatDoor.X
open Go.RowKit Go.Proofs.YtdijnmcfpbceaaaGreatDoorW.PrintWords Go.Proofs.YtdijnmcfpbceaaaGreatDoorW.PrintLast Go.Proofs.YtdijnmcfpbceaaaGreatDoorW.PrintMore
attribute [local go_sem] qAr qAu
set_option linter.unusedVariables false
set_option linter.unusedSimpArgs false
def head_kind.f (a0 : Int) (a1 : ByteArray) : Option (Int) := if a0 = 53 then (some 1) else (if a0 = 50 then (some 4) else (if a0 = 120 then (some 5) else (if a1.toList = ([48, 48, 48, 48, 55, 53, 53] : List UInt8) then (some 3) else (some 2))))
set_option maxHeartbeats 8000000 in
set_option maxRecDepth 100000 in
theorem head_kind.calls (a0 : Int) (a1 : ByteArray) (r : Int) (w : World) (h : head_kind.f a0 a1 = some r) :
  Calls Tryz.prog 92 #[.int .u8 a0, .string a1] w fun e w' => e = .returned (.int .i64 r) ∧ Drawn0 w w' := by
 have H : (if a0 = 53 then (some 1) else (if a0 = 50 then (some 4) else (if a0 = 120 then (some 5) else (if a1.toList = ([48, 48, 48, 48, 55, 53, 53] : List UInt8) then (some 3) else (some 2))))) = some r := h
 clear h
 by_cases c3 : a0 = 53
 ·rw [if_pos c3] at H
  have c3b0 : (a0 == 53) = true := beq_iff_eq.mpr c3
  have c3b1 : (a0 != 53) = false := bne_eq_false_iff_eq.mpr c3
  clear c3
  obtain rfl := Option.some.inj H
  go_enter Tryz.func92, Tryz.ntmps92
  go_wp2
  go_ret
  exact ⟨by first | rfl | (simp; done) | (simp [*]; done), by repeat (first | exact Drawn0.refl _ | apply Drawn0.step)⟩
 ·rw [if_neg c3] at H
  have c3b0 : (a0 == 53) = false := beq_eq_false_iff_ne.mpr c3
  have c3b1 : (a0 != 53) = true := bne_iff_ne.mpr c3
  by_cases c4 : a0 = 50
  ·rw [if_pos c4] at H
   have c4b0 : (a0 == 50) = true := beq_iff_eq.mpr c4
   have c4b1 : (a0 != 50) = false := bne_eq_false_iff_eq.mpr c4
   clear c4
   obtain rfl := Option.some.inj H
   go_enter Tryz.func92, Tryz.ntmps92
   go_wp2
   go_ret
   exact ⟨by first | rfl | (simp; done) | (simp [*]; done), by repeat (first | exact Drawn0.refl _ | apply Drawn0.step)⟩
  ·rw [if_neg c4] at H
   have c4b0 : (a0 == 50) = false := beq_eq_false_iff_ne.mpr c4
   have c4b1 : (a0 != 50) = true := bne_iff_ne.mpr c4
   by_cases c5 : a0 = 120
   ·rw [if_pos c5] at H
    have c5b0 : (a0 == 120) = true := beq_iff_eq.mpr c5
    have c5b1 : (a0 != 120) = false := bne_eq_false_iff_eq.mpr c5
    clear c5
    obtain rfl := Option.some.inj H
    go_enter Tryz.func92, Tryz.ntmps92
    go_wp2
    go_ret
    exact ⟨by first | rfl | (simp; done) | (simp [*]; done), by repeat (first | exact Drawn0.refl _ | apply Drawn0.step)⟩
   ·rw [if_neg c5] at H
    have c5b0 : (a0 == 120) = false := beq_eq_false_iff_ne.mpr c5
    have c5b1 : (a0 != 120) = true := bne_iff_ne.mpr c5
    by_cases c6 : a1.toList = ([48, 48, 48, 48, 55, 53, 53] : List UInt8)
    ·rw [if_pos c6] at H
     have c6b0 : (a1.toList == ([48, 48, 48, 48, 55, 53, 53] : List UInt8)) = true := beq_iff_eq.mpr c6
     have c6b1 : (a1.toList != ([48, 48, 48, 48, 55, 53, 53] : List UInt8)) = false := bne_eq_false_iff_eq.mpr c6
     clear c6
     obtain rfl := Option.some.inj H
     go_enter Tryz.func92, Tryz.ntmps92
     go_wp2
     go_ret
     exact ⟨by first | rfl | (simp; done) | (simp [*]; done), by repeat (first | exact Drawn0.refl _ | apply Drawn0.step)⟩
    ·rw [if_neg c6] at H
     have c6b0 : (a1.toList == ([48, 48, 48, 48, 55, 53, 53] : List UInt8)) = false := beq_eq_false_iff_ne.mpr c6
     have c6b1 : (a1.toList != ([48, 48, 48, 48, 55, 53, 53] : List UInt8)) = true := bne_iff_ne.mpr c6
     obtain rfl := Option.some.inj H
     go_enter Tryz.func92, Tryz.ntmps92
     go_wp2
     go_ret
     exact ⟨by first | rfl | (simp; done) | (simp [*]; done), by repeat (first | exact Drawn0.refl _ | apply Drawn0.step)⟩
end Go.Proofs.YtdijnmcfpbceaaaGreatDoor.P

namespace Go.Proofs.YtdijnmcfpbceaaaGreatDoor.P
open Go.Proofs.YtdijnmcfpbceaaaGreatDoor.X
open Go.RowKit Go.Proofs.YtdijnmcfpbceaaaGreatDoorW.PrintWords Go.Proofs.YtdijnmcfpbceaaaGreatDoorW.PrintLast Go.Proofs.YtdijnmcfpbceaaaGreatDoorW.PrintMore
attribute [local go_sem] qAr qAu
set_option linter.unusedVariables false
set_option linter.unusedSimpArgs false
def head_Read.f (k : Nat) (l0 : List Int) : Option (ByteArray × Int × Int × ByteArray × Bool) := if (l0.length : Int) = 512 then (if 100 ≤ (l0.length : Int) then ((head_field.f (l0.take 100)).bind fun t189 => (if 157 ≤ 257 then (if 257 ≤ (l0.length : Int) then ((head_field.f ((l0.take 257).drop 157)).bind fun t191 => (if 156 < (l0.length : Int) then (if 100 ≤ 108 then (if 108 ≤ (l0.length : Int) then ((head_field.f ((l0.take 108).drop 100)).bind fun t194 => ((head_kind.f (rd l0 156) t194).bind fun t195 => (if 124 ≤ 136 then (if 136 ≤ (l0.length : Int) then ((head_field.f ((l0.take 136).drop 124)).bind fun t197 => ((head_OfOctal.f k t197).bind fun bt198 => ((head_Lay.f k t189 t195 bt198.1 t191).bind fun bt200 => (if bt200.2 = true then (if (strOfNums bt200.1).toList = (strOfNums l0).toList then (some (t189, t195, bt198.1, t191, true)) else (some ((⟨#[]⟩ : ByteArray), 0, 0, (⟨#[]⟩ : ByteArray), false))) else (some ((⟨#[]⟩ : ByteArray), 0, 0, (⟨#[]⟩ : ByteArray), false)))))) else (none)) else (none)))) else (none)) else (none)) else (none))) else (none)) else (none))) else (none)) else (some ((⟨#[]⟩ : ByteArray), 0, 0, (⟨#[]⟩ : ByteArray), false))
set_option maxHeartbeats 8000000 in
set_option maxRecDepth 100000 in
theorem head_Read.calls (k : Nat) (A0 : Option Addr) (c0 : Nat) (l0 : List Int) (r1 : ByteArray) (r2 : Int) (r3 : Int) (r4 : ByteArray) (r5 : Bool) (w : World) (hT : Aside0 (Tabs w)) (hr0 : Kd.C (Kd.int .u8) w A0 l0.length l0) (hc0 : l0.length ≤ c0) (h : head_Read.f k l0 = some (r1, r2, r3, r4, r5)) :
  Calls Tryz.prog 73 #[.slice A0 l0.length c0] w fun e w' => e = .returned (.tuple #[.string r1, .int .i64 r2, .int .i64 r3, .string r4, .bool r5]) ∧ Below w.heap.size w w' := by
 have HR0 := Aside0.mk hr0
 have HC0 := Aside0.mk hc0
 clear hr0 hc0
 have HB := Aside0.mk (Below.refl w.heap.size w)
 have H : (if (l0.length : Int) = 512 then (if 100 ≤ (l0.length : Int) then ((head_field.f (l0.take 100)).bind fun t189 => (if 157 ≤ 257 then (if 257 ≤ (l0.length : Int) then ((head_field.f ((l0.take 257).drop 157)).bind fun t191 => (if 156 < (l0.length : Int) then (if 100 ≤ 108 then (if 108 ≤ (l0.length : Int) then ((head_field.f ((l0.take 108).drop 100)).bind fun t194 => ((head_kind.f (rd l0 156) t194).bind fun t195 => (if 124 ≤ 136 then (if 136 ≤ (l0.length : Int) then ((head_field.f ((l0.take 136).drop 124)).bind fun t197 => ((head_OfOctal.f k t197).bind fun bt198 => ((head_Lay.f k t189 t195 bt198.1 t191).bind fun bt200 => (if bt200.2 = true then (if (strOfNums bt200.1).toList = (strOfNums l0).toList then (some (t189, t195, bt198.1, t191, true)) else (some ((⟨#[]⟩ : ByteArray), 0, 0, (⟨#[]⟩ : ByteArray), false))) else (some ((⟨#[]⟩ : ByteArray), 0, 0, (⟨#[]⟩ : ByteArray), false)))))) else (none)) else (none)))) else (none)) else (none)) else (none))) else (none)) else (none))) else (none)) else (some ((⟨#[]⟩ : ByteArray), 0, 0, (⟨#[]⟩ : ByteArray), false))) = some (r1, r2, r3, r4, r5) := h
 clear h
 by_cases c2 : (l0.length : Int) = 512
 ·rw [if_pos c2] at H
  have c2b0 : ((l0.length : Int) == 512) = true := beq_iff_eq.mpr c2
  have c2b1 : ((l0.length : Int) != 512) = false := bne_eq_false_iff_eq.mpr c2
  clear c2
  by_cases c3 : 100 ≤ (l0.length : Int)
  ·rw [if_pos c3] at H
   have c3b0 := eq_true c3
   have c3b1 : decide (100 ≤ (l0.length : Int)) = true := decide_eq_true c3
   clear c3
   replace H := Option.bind_eq_some_iff.mp H
   obtain ⟨t189, A40, H⟩ := H
   replace H : (if 157 ≤ 257 then (if 257 ≤ (l0.length : Int) then ((head_field.f ((l0.take 257).drop 157)).bind fun t191 => (if 156 < (l0.length : Int) then (if 100 ≤ 108 then (if 108 ≤ (l0.length : Int) then ((head_field.f ((l0.take 108).drop 100)).bind fun t194 => ((head_kind.f (rd l0 156) t194).bind fun t195 => (if 124 ≤ 136 then (if 136 ≤ (l0.length : Int) then ((head_field.f ((l0.take 136).drop 124)).bind fun t197 => ((head_OfOctal.f k t197).bind fun bt198 => ((head_Lay.f k t189 t195 bt198.1 t191).bind fun bt200 => (if bt200.2 = true then (if (strOfNums bt200.1).toList = (strOfNums l0).toList then (some (t189, t195, bt198.1, t191, true)) else (some ((⟨#[]⟩ : ByteArray), 0, 0, (⟨#[]⟩ : ByteArray), false))) else (some ((⟨#[]⟩ : ByteArray), 0, 0, (⟨#[]⟩ : ByteArray), false)))))) else (none)) else (none)))) else (none)) else (none)) else (none))) else (none)) else (none)) = some (r1, r2, r3, r4, r5) := H
   have A4 := Aside0.mk A40
   clear A40
   by_cases c5 : 157 ≤ 257
   ·rw [if_pos c5] at H
    have c5b0 := eq_true c5
    have c5b1 : decide (157 ≤ 257) = true := decide_eq_true c5
    clear c5
    by_cases c6 : 257 ≤ (l0.length : Int)
    ·rw [if_pos c6] at H
     have c6b0 := eq_true c6
     have c6b1 : decide (257 ≤ (l0.length : Int)) = true := decide_eq_true c6
     clear c6
     replace H := Option.bind_eq_some_iff.mp H
     obtain ⟨t191, A70, H⟩ := H
     replace H : (if 156 < (l0.length : Int) then (if 100 ≤ 108 then (if 108 ≤ (l0.length : Int) then ((head_field.f ((l0.take 108).drop 100)).bind fun t194 => ((head_kind.f (rd l0 156) t194).bind fun t195 => (if 124 ≤ 136 then (if 136 ≤ (l0.length : Int) then ((head_field.f ((l0.take 136).drop 124)).bind fun t197 => ((head_OfOctal.f k t197).bind fun bt198 => ((head_Lay.f k t189 t195 bt198.1 t191).bind fun bt200 => (if bt200.2 = true then (if (strOfNums bt200.1).toList = (strOfNums l0).toList then (some (t189, t195, bt198.1, t191, true)) else (some ((⟨#[]⟩ : ByteArray), 0, 0, (⟨#[]⟩ : ByteArray), false))) else (some ((⟨#[]⟩ : ByteArray), 0, 0, (⟨#[]⟩ : ByteArray), false)))))) else (none)) else (none)))) else (none)) else (none)) else (none)) = some (r1, r2, r3, r4, r5) := H
     have A7 := Aside0.mk A70
     clear A70
     by_cases c8 : 156 < (l0.length : Int)
     ·rw [if_pos c8] at H
      have c8b0 : decide (156 < (l0.length : Int)) = true := decide_eq_true c8
      have c8b1 : decide (156 < l0.length) = true := decide_eq_true (by omega)
      clear c8
      by_cases c9 : 100 ≤ 108
      ·rw [if_pos c9] at H
       have c9b0 := eq_true c9
       have c9b1 : decide (100 ≤ 108) = true := decide_eq_true c9
       clear c9
       by_cases c10 : 108 ≤ (l0.length : Int)
       ·rw [if_pos c10] at H
        have c10b0 := eq_true c10
        have c10b1 : decide (108 ≤ (l0.length : Int)) = true := decide_eq_true c10
        clear c10
        replace H := Option.bind_eq_some_iff.mp H
        obtain ⟨t194, A110, H⟩ := H
        replace H : ((head_kind.f (rd l0 156) t194).bind fun t195 => (if 124 ≤ 136 then (if 136 ≤ (l0.length : Int) then ((head_field.f ((l0.take 136).drop 124)).bind fun t197 => ((head_OfOctal.f k t197).bind fun bt198 => ((head_Lay.f k t189 t195 bt198.1 t191).bind fun bt200 => (if bt200.2 = true then (if (strOfNums bt200.1).toList = (strOfNums l0).toList then (some (t189, t195, bt198.1, t191, true)) else (some ((⟨#[]⟩ : ByteArray), 0, 0, (⟨#[]⟩ : ByteArray), false))) else (some ((⟨#[]⟩ : ByteArray), 0, 0, (⟨#[]⟩ : ByteArray), false)))))) else (none)) else (none))) = some (r1, r2, r3, r4, r5) := H
        have A11 := Aside0.mk A110
        clear A110
        replace H := Option.bind_eq_some_iff.mp H
        obtain ⟨t195, A120, H⟩ := H
        replace H : (if 124 ≤ 136 then (if 136 ≤ (l0.length : Int) then ((head_field.f ((l0.take 136).drop 124)).bind fun t197 => ((head_OfOctal.f k t197).bind fun bt198 => ((head_Lay.f k t189 t195 bt198.1 t191).bind fun bt200 => (if bt200.2 = true then (if (strOfNums bt200.1).toList = (strOfNums l0).toList then (some (t189, t195, bt198.1, t191, true)) else (some ((⟨#[]⟩ : ByteArray), 0, 0, (⟨#[]⟩ : ByteArray), false))) else (some ((⟨#[]⟩ : ByteArray), 0, 0, (⟨#[]⟩ : ByteArray), false)))))) else (none)) else (none)) = some (r1, r2, r3, r4, r5) := H
        have A12 := Aside0.mk A120
        clear A120
        by_cases c13 : 124 ≤ 136
        ·rw [if_pos c13] at H
         have c13b0 := eq_true c13
         have c13b1 : decide (124 ≤ 136) = true := decide_eq_true c13
         clear c13
         by_cases c14 : 136 ≤ (l0.length : Int)
         ·rw [if_pos c14] at H
          have c14b0 := eq_true c14
          have c14b1 : decide (136 ≤ (l0.length : Int)) = true := decide_eq_true c14
          clear c14
          replace H := Option.bind_eq_some_iff.mp H
          obtain ⟨t197, A150, H⟩ := H
          replace H : ((head_OfOctal.f k t197).bind fun bt198 => ((head_Lay.f k t189 t195 bt198.1 t191).bind fun bt200 => (if bt200.2 = true then (if (strOfNums bt200.1).toList = (strOfNums l0).toList then (some (t189, t195, bt198.1, t191, true)) else (some ((⟨#[]⟩ : ByteArray), 0, 0, (⟨#[]⟩ : ByteArray), false))) else (some ((⟨#[]⟩ : ByteArray), 0, 0, (⟨#[]⟩ : ByteArray), false))))) = some (r1, r2, r3, r4, r5) := H
          have A15 := Aside0.mk A150
          clear A150
          replace H := Option.bind_eq_some_iff.mp H
          obtain ⟨⟨t198, t199⟩, A160, H⟩ := H
          replace H : ((head_Lay.f k t189 t195 t198 t191).bind fun bt200 => (if bt200.2 = true then (if (strOfNums bt200.1).toList = (strOfNums l0).toList then (some (t189, t195, t198, t191, true)) else (some ((⟨#[]⟩ : ByteArray), 0, 0, (⟨#[]⟩ : ByteArray), false))) else (some ((⟨#[]⟩ : ByteArray), 0, 0, (⟨#[]⟩ : ByteArray), false)))) = some (r1, r2, r3, r4, r5) := H
          have A16 := Aside0.mk A160
          clear A160
          replace H := Option.bind_eq_some_iff.mp H
          obtain ⟨⟨t200, t201⟩, A170, H⟩ := H
          replace H : (if t201 = true then (if (strOfNums t200).toList = (strOfNums l0).toList then (some (t189, t195, t198, t191, true)) else (some ((⟨#[]⟩ : ByteArray), 0, 0, (⟨#[]⟩ : ByteArray), false))) else (some ((⟨#[]⟩ : ByteArray), 0, 0, (⟨#[]⟩ : ByteArray), false))) = some (r1, r2, r3, r4, r5) := H
          have A17 := Aside0.mk A170
          clear A170
          by_cases c18 : t201 = true
          ·subst c18
           have H1 : (if (strOfNums t200).toList = (strOfNums l0).toList then (some (t189, t195, t198, t191, true)) else (some ((⟨#[]⟩ : ByteArray), 0, 0, (⟨#[]⟩ : ByteArray), false))) = some (r1, r2, r3, r4, r5) := by rw [if_pos rfl] at H; exact H
           clear H
           have H := H1
           clear H1
           by_cases c19 : (strOfNums t200).toList = (strOfNums l0).toList
           ·rw [if_pos c19] at H
            have c19b0 : ((strOfNums t200).toList == (strOfNums l0).toList) = true := beq_iff_eq.mpr c19
            have c19b1 : ((strOfNums t200).toList != (strOfNums l0).toList) = false := bne_eq_false_iff_eq.mpr c19
            clear c19
            simp only [Option.some.injEq, Prod.mk.injEq] at H
            obtain ⟨rfl, rfl, rfl, rfl, rfl⟩ := H
            obtain ⟨i020, hi020, _, hsz20, _⟩ := info_parts info5
            obtain ⟨hcut20, hA20, hC20⟩ := qCa (P := Tryz.prog) (Value.int .u8) 0 26 5 .i64 Tryz.underlying26 hi020 hsz20 A0 c0 l0 100 (by omega) (of_decide_eq_true (by first | (with_reducible assumption) | assumption)) HC0.out
            have HR188 := Aside0.mk (Kd.C_of_reads (h1 := fun _ => rfl) (hA20 _ (Kd.reads_of_C HR0.out)))
            have HC188 := Aside0.mk hC20
            clear hA20 hC20 hi020 hsz20
            obtain ⟨i021, hi021, _, hsz21, _⟩ := info_parts info5
            obtain ⟨A21, hcut21, hA21, hC21⟩ := qAm (P := Tryz.prog) (Value.int .u8) 0 26 5 .i64 .i64 Tryz.underlying26 hi021 hsz21 A0 c0 l0 157 257 (by omega) (by first | omega | exact of_decide_eq_true (by first | (with_reducible assumption) | assumption)) (of_decide_eq_true (by first | (with_reducible assumption) | assumption)) HC0.out
            have HR190 := Aside0.mk (Kd.C_of_reads (h1 := fun _ => rfl) (hA21 _ (Kd.reads_of_C HR0.out)))
            have HC190 := Aside0.mk hC21
            clear hA21 hC21 hi021 hsz21
            go_enter Tryz.func73, Tryz.ntmps73
            go_wp2_with (first | (go_at_call 91; (with_reducible refine (head_field.calls _ _ (l0.take 100) t189 _ ?side1 ?side2 ?side3 A4.out).mono ?_); (case side1 => exact ⟨Tabs.below hT.out (by repeat (first | (with_reducible first | exact HB.out | apply qAb | apply qAa | apply qAc) | exact HB.out))⟩); (case side2 => repeat (first | exact HR188.out | (with_reducible refine Kd.C_alloc ?_ _) | (with_reducible refine Kd.C_drewN ?_ _) | (with_reducible refine Kd.C_drew ?_))); (case side3 => exact HC188.out); rintro e w' ⟨rfl, ⟨nd, rfl⟩⟩; (try first | exact ⟨rfl, _, World.drewN_drewN _ _ _⟩ | exact ⟨rfl, _, Eq.trans (World.drewN_drewN _ _ _) (congrArg (World.drewN _) (Nat.add_assoc _ _ _))⟩)) | (go_at_call 91; (with_reducible refine (head_field.calls _ _ ((l0.take 257).drop 157) t191 _ ?side1 ?side2 ?side3 A7.out).mono ?_); (case side1 => exact ⟨Tabs.below hT.out (by repeat (first | (with_reducible first | exact HB.out | apply qAb | apply qAa | apply qAc) | exact HB.out))⟩); (case side2 => repeat (first | exact HR190.out | (with_reducible refine Kd.C_alloc ?_ _) | (with_reducible refine Kd.C_drewN ?_ _) | (with_reducible refine Kd.C_drew ?_))); (case side3 => exact HC190.out); rintro e w' ⟨rfl, ⟨nd, rfl⟩⟩; (try first | exact ⟨rfl, _, World.drewN_drewN _ _ _⟩ | exact ⟨rfl, _, Eq.trans (World.drewN_drewN _ _ _) (congrArg (World.drewN _) (Nat.add_assoc _ _ _))⟩); have p192 : 0 ≤ (156 : Int) := (by omega); have q192 : 156 < (l0.length : Int) := of_decide_eq_true (by first | (with_reducible assumption) | assumption); obtain ⟨ad192, e192, hx192_0⟩ := Kd.at_int HR0.out 156 p192 q192; cases e192; (try simp only [show (156 : Int).toNat = 156 from rfl, Nat.reduceMul, Nat.reduceEqDiff, Go.Addr.add, ↓reduceIte] at hx192_0); have qi192 : (156 < l0.length) = True := eq_true (by omega); (try rw [show ((156 : Int)).toNat = 156 from rfl] at hx192_0); replace p192 := eq_true p192; replace q192 := eq_true q192; obtain ⟨i022, hi022, _, hsz22, _⟩ := info_parts info5; obtain ⟨A22, hcut22, hA22, hC22⟩ := qAm (P := Tryz.prog) (Value.int .u8) 0 26 5 .i64 .i64 Tryz.underlying26 hi022 hsz22 (some ad192) c0 l0 100 108 (by omega) (by first | omega | exact of_decide_eq_true (by first | (with_reducible assumption) | assumption)) (of_decide_eq_true (by first | (with_reducible assumption) | assumption)) HC0.out; have HR193 := Aside0.mk (Kd.C_of_reads (h1 := fun _ => rfl) (hA22 _ (Kd.reads_of_C HR0.out))); have HC193 := Aside0.mk hC22; clear hA22 hC22 hi022 hsz22) | (go_at_call 91; (with_reducible refine (head_field.calls _ _ ((l0.take 108).drop 100) t194 _ ?side1 ?side2 ?side3 A11.out).mono ?_); (case side1 => exact ⟨Tabs.below hT.out (by repeat (first | (with_reducible first | exact HB.out | apply qAb | apply qAa | apply qAc) | exact HB.out))⟩); (case side2 => repeat (first | exact HR193.out | (with_reducible refine Kd.C_alloc ?_ _) | (with_reducible refine Kd.C_drewN ?_ _) | (with_reducible refine Kd.C_drew ?_))); (case side3 => exact HC193.out); rintro e w' ⟨rfl, ⟨nd, rfl⟩⟩; (try first | exact ⟨rfl, _, World.drewN_drewN _ _ _⟩ | exact ⟨rfl, _, Eq.trans (World.drewN_drewN _ _ _) (congrArg (World.drewN _) (Nat.add_assoc _ _ _))⟩)) | (go_at_call 92; (with_reducible refine (head_kind.calls (rd l0 156) t194 t195 _ A12.out).mono ?_); rintro e w' ⟨rfl, ⟨nd, rfl⟩⟩; (try first | exact ⟨rfl, _, World.drewN_drewN _ _ _⟩ | exact ⟨rfl, _, Eq.trans (World.drewN_drewN _ _ _) (congrArg (World.drewN _) (Nat.add_assoc _ _ _))⟩); obtain ⟨i023, hi023, _, hsz23, _⟩ := info_parts info5; obtain ⟨A23, hcut23, hA23, hC23⟩ := qAm (P := Tryz.prog) (Value.int .u8) 0 26 5 .i64 .i64 Tryz.underlying26 hi023 hsz23 (some ad192) c0 l0 124 136 (by omega) (by first | omega | exact of_decide_eq_true (by first | (with_reducible assumption) | assumption)) (of_decide_eq_true (by first | (with_reducible assumption) | assumption)) HC0.out; have HR196 := Aside0.mk (Kd.C_of_reads (h1 := fun _ => rfl) (hA23 _ (Kd.reads_of_C HR0.out))); have HC196 := Aside0.mk hC23; clear hA23 hC23 hi023 hsz23) | (go_at_call 91; (with_reducible refine (head_field.calls _ _ ((l0.take 136).drop 124) t197 _ ?side1 ?side2 ?side3 A15.out).mono ?_); (case side1 => exact ⟨Tabs.below hT.out (by repeat (first | (with_reducible first | exact HB.out | apply qAb | apply qAa | apply qAc) | exact HB.out))⟩); (case side2 => repeat (first | exact HR196.out | (with_reducible refine Kd.C_alloc ?_ _) | (with_reducible refine Kd.C_drewN ?_ _) | (with_reducible refine Kd.C_drew ?_))); (case side3 => exact HC196.out); rintro e w' ⟨rfl, ⟨nd, rfl⟩⟩; (try first | exact ⟨rfl, _, World.drewN_drewN _ _ _⟩ | exact ⟨rfl, _, Eq.trans (World.drewN_drewN _ _ _) (congrArg (World.drewN _) (Nat.add_assoc _ _ _))⟩)) | (go_at_call 93; (with_reducible refine (head_OfOctal.calls k t197 t198 t199 _ A16.out).mono ?_); rintro e w' ⟨rfl, ⟨nd, rfl⟩⟩; (try first | exact ⟨rfl, _, World.drewN_drewN _ _ _⟩ | exact ⟨rfl, _, Eq.trans (World.drewN_drewN _ _ _) (congrArg (World.drewN _) (Nat.add_assoc _ _ _))⟩)) | (go_at_call 79; (with_reducible refine (head_Lay.calls k t189 t195 t198 t191 t200 true _ ?side1 A17.out).mono ?_); (case side1 => exact ⟨Tabs.below hT.out (by repeat (first | (with_reducible first | exact HB.out | apply qAb | apply qAa | apply qAc) | exact HB.out))⟩); rintro e w24 ⟨v202, rfl, ho0, hb⟩; have n0_ := Aside0.mk (Kd.R_lower ho0 (qAo (by repeat (first | (with_reducible first | exact HB.out | apply qAb | apply qAa | apply qAc) | exact HB.out)))); have n1_ := Aside0.mk (qAe (by repeat (first | (with_reducible first | exact HB.out | apply qAb | apply qAa | apply qAc) | exact HB.out)) hb); clear HB; have HO203 := n0_; have HB := n1_; clear n0_ n1_; (try clear hb); (try clear hb2); (try clear hk); (try clear hi); (try clear ho0); have hcv25 := qBu (P := Tryz.prog) Tryz.underlying26 Tryz.underlying5 Tryz.underlying9 (Kd.own_of_R HO203.out); have hcv26 := Kd.C_string (P := Tryz.prog) (A := (some ad192)) (c := c0) Tryz.underlying26 Tryz.underlying5 Tryz.underlying9 (Kd.C_below HR0.out HB.out); have hcvq27 := qA9 (P := Tryz.prog) (A := (some ad192)) (c := c0) Tryz.underlying26 Tryz.underlying5 Tryz.underlying9 (Kd.C_below HR0.out HB.out)))
            repeat (go_quiet (first | (go_at_call 91; refine qAl (n' := (l0.take 100).length) (by first | rfl | simp) ?_; (with_reducible refine (head_field.calls _ _ (l0.take 100) t189 _ ?side1 ?side2 ?side3 A4.out).mono ?_); (case side1 => exact ⟨Tabs.below hT.out (by repeat (first | (with_reducible first | exact HB.out | apply qAb | apply qAa | apply qAc) | exact HB.out))⟩); (case side2 => repeat (first | exact HR188.out | (with_reducible refine Kd.C_alloc ?_ _) | (with_reducible refine Kd.C_drewN ?_ _) | (with_reducible refine Kd.C_drew ?_))); (case side3 => exact HC188.out); rintro e w' ⟨rfl, ⟨nd, rfl⟩⟩; (try first | exact ⟨rfl, _, World.drewN_drewN _ _ _⟩ | exact ⟨rfl, _, Eq.trans (World.drewN_drewN _ _ _) (congrArg (World.drewN _) (Nat.add_assoc _ _ _))⟩); (try clear A4)) | (go_at_call 91; refine qAl (n' := ((l0.take 257).drop 157).length) (by first | rfl | simp) ?_; (with_reducible refine (head_field.calls _ _ ((l0.take 257).drop 157) t191 _ ?side1 ?side2 ?side3 A7.out).mono ?_); (case side1 => exact ⟨Tabs.below hT.out (by repeat (first | (with_reducible first | exact HB.out | apply qAb | apply qAa | apply qAc) | exact HB.out))⟩); (case side2 => repeat (first | exact HR190.out | (with_reducible refine Kd.C_alloc ?_ _) | (with_reducible refine Kd.C_drewN ?_ _) | (with_reducible refine Kd.C_drew ?_))); (case side3 => exact HC190.out); rintro e w' ⟨rfl, ⟨nd, rfl⟩⟩; (try first | exact ⟨rfl, _, World.drewN_drewN _ _ _⟩ | exact ⟨rfl, _, Eq.trans (World.drewN_drewN _ _ _) (congrArg (World.drewN _) (Nat.add_assoc _ _ _))⟩); have p192 : 0 ≤ (156 : Int) := (by omega); have q192 : 156 < (l0.length : Int) := of_decide_eq_true (by first | (with_reducible assumption) | assumption); obtain ⟨ad192, e192, hx192_0⟩ := Kd.at_int HR0.out 156 p192 q192; cases e192; (try simp only [show (156 : Int).toNat = 156 from rfl, Nat.reduceMul, Nat.reduceEqDiff, Go.Addr.add, ↓reduceIte] at hx192_0); have qi192 : (156 < l0.length) = True := eq_true (by omega); (try rw [show ((156 : Int)).toNat = 156 from rfl] at hx192_0); replace p192 := eq_true p192; replace q192 := eq_true q192; obtain ⟨i022, hi022, _, hsz22, _⟩ := info_parts info5; obtain ⟨A22, hcut22, hA22, hC22⟩ := qAm (P := Tryz.prog) (Value.int .u8) 0 26 5 .i64 .i64 Tryz.underlying26 hi022 hsz22 (some ad192) c0 l0 100 108 (by omega) (by first | omega | exact of_decide_eq_true (by first | (with_reducible assumption) | assumption)) (of_decide_eq_true (by first | (with_reducible assumption) | assumption)) HC0.out; have HR193 := Aside0.mk (Kd.C_of_reads (h1 := fun _ => rfl) (hA22 _ (Kd.reads_of_C HR0.out))); have HC193 := Aside0.mk hC22; clear hA22 hC22 hi022 hsz22; (try clear A7)) | (go_at_call 91; refine qAl (n' := ((l0.take 108).drop 100).length) (by first | rfl | simp) ?_; (with_reducible refine (head_field.calls _ _ ((l0.take 108).drop 100) t194 _ ?side1 ?side2 ?side3 A11.out).mono ?_); (case side1 => exact ⟨Tabs.below hT.out (by repeat (first | (with_reducible first | exact HB.out | apply qAb | apply qAa | apply qAc) | exact HB.out))⟩); (case side2 => repeat (first | exact HR193.out | (with_reducible refine Kd.C_alloc ?_ _) | (with_reducible refine Kd.C_drewN ?_ _) | (with_reducible refine Kd.C_drew ?_))); (case side3 => exact HC193.out); rintro e w' ⟨rfl, ⟨nd, rfl⟩⟩; (try first | exact ⟨rfl, _, World.drewN_drewN _ _ _⟩ | exact ⟨rfl, _, Eq.trans (World.drewN_drewN _ _ _) (congrArg (World.drewN _) (Nat.add_assoc _ _ _))⟩); (try clear A11)) | (go_at_call 92; (with_reducible refine (head_kind.calls (rd l0 156) t194 t195 _ A12.out).mono ?_); rintro e w' ⟨rfl, ⟨nd, rfl⟩⟩; (try first | exact ⟨rfl, _, World.drewN_drewN _ _ _⟩ | exact ⟨rfl, _, Eq.trans (World.drewN_drewN _ _ _) (congrArg (World.drewN _) (Nat.add_assoc _ _ _))⟩); obtain ⟨i023, hi023, _, hsz23, _⟩ := info_parts info5; obtain ⟨A23, hcut23, hA23, hC23⟩ := qAm (P := Tryz.prog) (Value.int .u8) 0 26 5 .i64 .i64 Tryz.underlying26 hi023 hsz23 (some ad192) c0 l0 124 136 (by omega) (by first | omega | exact of_decide_eq_true (by first | (with_reducible assumption) | assumption)) (of_decide_eq_true (by first | (with_reducible assumption) | assumption)) HC0.out; have HR196 := Aside0.mk (Kd.C_of_reads (h1 := fun _ => rfl) (hA23 _ (Kd.reads_of_C HR0.out))); have HC196 := Aside0.mk hC23; clear hA23 hC23 hi023 hsz23; (try clear A12)) | (go_at_call 91; refine qAl (n' := ((l0.take 136).drop 124).length) (by first | rfl | simp) ?_; (with_reducible refine (head_field.calls _ _ ((l0.take 136).drop 124) t197 _ ?side1 ?side2 ?side3 A15.out).mono ?_); (case side1 => exact ⟨Tabs.below hT.out (by repeat (first | (with_reducible first | exact HB.out | apply qAb | apply qAa | apply qAc) | exact HB.out))⟩); (case side2 => repeat (first | exact HR196.out | (with_reducible refine Kd.C_alloc ?_ _) | (with_reducible refine Kd.C_drewN ?_ _) | (with_reducible refine Kd.C_drew ?_))); (case side3 => exact HC196.out); rintro e w' ⟨rfl, ⟨nd, rfl⟩⟩; (try first | exact ⟨rfl, _, World.drewN_drewN _ _ _⟩ | exact ⟨rfl, _, Eq.trans (World.drewN_drewN _ _ _) (congrArg (World.drewN _) (Nat.add_assoc _ _ _))⟩); (try clear A15)) | (go_at_call 93; (with_reducible refine (head_OfOctal.calls k t197 t198 t199 _ A16.out).mono ?_); rintro e w' ⟨rfl, ⟨nd, rfl⟩⟩; (try first | exact ⟨rfl, _, World.drewN_drewN _ _ _⟩ | exact ⟨rfl, _, Eq.trans (World.drewN_drewN _ _ _) (congrArg (World.drewN _) (Nat.add_assoc _ _ _))⟩); (try clear A16)) | (go_at_call 79; (with_reducible refine (head_Lay.calls k t189 t195 t198 t191 t200 true _ ?side1 A17.out).mono ?_); (case side1 => exact ⟨Tabs.below hT.out (by repeat (first | (with_reducible first | exact HB.out | apply qAb | apply qAa | apply qAc) | exact HB.out))⟩); rintro e w24 ⟨v202, rfl, ho0, hb⟩; have n0_ := Aside0.mk (Kd.R_lower ho0 (qAo (by repeat (first | (with_reducible first | exact HB.out | apply qAb | apply qAa | apply qAc) | exact HB.out)))); have n1_ := Aside0.mk (qAe (by repeat (first | (with_reducible first | exact HB.out | apply qAb | apply qAa | apply qAc) | exact HB.out)) hb); clear HB; have HO203 := n0_; have HB := n1_; clear n0_ n1_; (try clear hb); (try clear hb2); (try clear hk); (try clear hi); (try clear ho0); have hcv25 := qBu (P := Tryz.prog) Tryz.underlying26 Tryz.underlying5 Tryz.underlying9 (Kd.own_of_R HO203.out); have hcv26 := Kd.C_string (P := Tryz.prog) (A := (some ad192)) (c := c0) Tryz.underlying26 Tryz.underlying5 Tryz.underlying9 (Kd.C_below HR0.out HB.out); have hcvq27 := qA9 (P := Tryz.prog) (A := (some ad192)) (c := c0) Tryz.underlying26 Tryz.underlying5 Tryz.underlying9 (Kd.C_below HR0.out HB.out); (try clear A17))); try go_wp2_with (first | (go_at_call 91; refine qAl (n' := (l0.take 100).length) (by first | rfl | simp) ?_; (with_reducible refine (head_field.calls _ _ (l0.take 100) t189 _ ?side1 ?side2 ?side3 A4.out).mono ?_); (case side1 => exact ⟨Tabs.below hT.out (by repeat (first | (with_reducible first | exact HB.out | apply qAb | apply qAa | apply qAc) | exact HB.out))⟩); (case side2 => repeat (first | exact HR188.out | (with_reducible refine Kd.C_alloc ?_ _) | (with_reducible refine Kd.C_drewN ?_ _) | (with_reducible refine Kd.C_drew ?_))); (case side3 => exact HC188.out); rintro e w' ⟨rfl, ⟨nd, rfl⟩⟩; (try first | exact ⟨rfl, _, World.drewN_drewN _ _ _⟩ | exact ⟨rfl, _, Eq.trans (World.drewN_drewN _ _ _) (congrArg (World.drewN _) (Nat.add_assoc _ _ _))⟩); (try clear A4)) | (go_at_call 91; refine qAl (n' := ((l0.take 257).drop 157).length) (by first | rfl | simp) ?_; (with_reducible refine (head_field.calls _ _ ((l0.take 257).drop 157) t191 _ ?side1 ?side2 ?side3 A7.out).mono ?_); (case side1 => exact ⟨Tabs.below hT.out (by repeat (first | (with_reducible first | exact HB.out | apply qAb | apply qAa | apply qAc) | exact HB.out))⟩); (case side2 => repeat (first | exact HR190.out | (with_reducible refine Kd.C_alloc ?_ _) | (with_reducible refine Kd.C_drewN ?_ _) | (with_reducible refine Kd.C_drew ?_))); (case side3 => exact HC190.out); rintro e w' ⟨rfl, ⟨nd, rfl⟩⟩; (try first | exact ⟨rfl, _, World.drewN_drewN _ _ _⟩ | exact ⟨rfl, _, Eq.trans (World.drewN_drewN _ _ _) (congrArg (World.drewN _) (Nat.add_assoc _ _ _))⟩); have p192 : 0 ≤ (156 : Int) := (by omega); have q192 : 156 < (l0.length : Int) := of_decide_eq_true (by first | (with_reducible assumption) | assumption); obtain ⟨ad192, e192, hx192_0⟩ := Kd.at_int HR0.out 156 p192 q192; cases e192; (try simp only [show (156 : Int).toNat = 156 from rfl, Nat.reduceMul, Nat.reduceEqDiff, Go.Addr.add, ↓reduceIte] at hx192_0); have qi192 : (156 < l0.length) = True := eq_true (by omega); (try rw [show ((156 : Int)).toNat = 156 from rfl] at hx192_0); replace p192 := eq_true p192; replace q192 := eq_true q192; obtain ⟨i022, hi022, _, hsz22, _⟩ := info_parts info5; obtain ⟨A22, hcut22, hA22, hC22⟩ := qAm (P := Tryz.prog) (Value.int .u8) 0 26 5 .i64 .i64 Tryz.underlying26 hi022 hsz22 (some ad192) c0 l0 100 108 (by omega) (by first | omega | exact of_decide_eq_true (by first | (with_reducible assumption) | assumption)) (of_decide_eq_true (by first | (with_reducible assumption) | assumption)) HC0.out; have HR193 := Aside0.mk (Kd.C_of_reads (h1 := fun _ => rfl) (hA22 _ (Kd.reads_of_C HR0.out))); have HC193 := Aside0.mk hC22; clear hA22 hC22 hi022 hsz22; (try clear A7)) | (go_at_call 91; refine qAl (n' := ((l0.take 108).drop 100).length) (by first | rfl | simp) ?_; (with_reducible refine (head_field.calls _ _ ((l0.take 108).drop 100) t194 _ ?side1 ?side2 ?side3 A11.out).mono ?_); (case side1 => exact ⟨Tabs.below hT.out (by repeat (first | (with_reducible first | exact HB.out | apply qAb | apply qAa | apply qAc) | exact HB.out))⟩); (case side2 => repeat (first | exact HR193.out | (with_reducible refine Kd.C_alloc ?_ _) | (with_reducible refine Kd.C_drewN ?_ _) | (with_reducible refine Kd.C_drew ?_))); (case side3 => exact HC193.out); rintro e w' ⟨rfl, ⟨nd, rfl⟩⟩; (try first | exact ⟨rfl, _, World.drewN_drewN _ _ _⟩ | exact ⟨rfl, _, Eq.trans (World.drewN_drewN _ _ _) (congrArg (World.drewN _) (Nat.add_assoc _ _ _))⟩); (try clear A11)) | (go_at_call 92; (with_reducible refine (head_kind.calls (rd l0 156) t194 t195 _ A12.out).mono ?_); rintro e w' ⟨rfl, ⟨nd, rfl⟩⟩; (try first | exact ⟨rfl, _, World.drewN_drewN _ _ _⟩ | exact ⟨rfl, _, Eq.trans (World.drewN_drewN _ _ _) (congrArg (World.drewN _) (Nat.add_assoc _ _ _))⟩); obtain ⟨i023, hi023, _, hsz23, _⟩ := info_parts info5; obtain ⟨A23, hcut23, hA23, hC23⟩ := qAm (P := Tryz.prog) (Value.int .u8) 0 26 5 .i64 .i64 Tryz.underlying26 hi023 hsz23 (some ad192) c0 l0 124 136 (by omega) (by first | omega | exact of_decide_eq_true (by first | (with_reducible assumption) | assumption)) (of_decide_eq_true (by first | (with_reducible assumption) | assumption)) HC0.out; have HR196 := Aside0.mk (Kd.C_of_reads (h1 := fun _ => rfl) (hA23 _ (Kd.reads_of_C HR0.out))); have HC196 := Aside0.mk hC23; clear hA23 hC23 hi023 hsz23; (try clear A12)) | (go_at_call 91; refine qAl (n' := ((l0.take 136).drop 124).length) (by first | rfl | simp) ?_; (with_reducible refine (head_field.calls _ _ ((l0.take 136).drop 124) t197 _ ?side1 ?side2 ?side3 A15.out).mono ?_); (case side1 => exact ⟨Tabs.below hT.out (by repeat (first | (with_reducible first | exact HB.out | apply qAb | apply qAa | apply qAc) | exact HB.out))⟩); (case side2 => repeat (first | exact HR196.out | (with_reducible refine Kd.C_alloc ?_ _) | (with_reducible refine Kd.C_drewN ?_ _) | (with_reducible refine Kd.C_drew ?_))); (case side3 => exact HC196.out); rintro e w' ⟨rfl, ⟨nd, rfl⟩⟩; (try first | exact ⟨rfl, _, World.drewN_drewN _ _ _⟩ | exact ⟨rfl, _, Eq.trans (World.drewN_drewN _ _ _) (congrArg (World.drewN _) (Nat.add_assoc _ _ _))⟩); (try clear A15)) | (go_at_call 93; (with_reducible refine (head_OfOctal.calls k t197 t198 t199 _ A16.out).mono ?_); rintro e w' ⟨rfl, ⟨nd, rfl⟩⟩; (try first | exact ⟨rfl, _, World.drewN_drewN _ _ _⟩ | exact ⟨rfl, _, Eq.trans (World.drewN_drewN _ _ _) (congrArg (World.drewN _) (Nat.add_assoc _ _ _))⟩); (try clear A16)) | (go_at_call 79; (with_reducible refine (head_Lay.calls k t189 t195 t198 t191 t200 true _ ?side1 A17.out).mono ?_); (case side1 => exact ⟨Tabs.below hT.out (by repeat (first | (with_reducible first | exact HB.out | apply qAb | apply qAa | apply qAc) | exact HB.out))⟩); rintro e w24 ⟨v202, rfl, ho0, hb⟩; have n0_ := Aside0.mk (Kd.R_lower ho0 (qAo (by repeat (first | (with_reducible first | exact HB.out | apply qAb | apply qAa | apply qAc) | exact HB.out)))); have n1_ := Aside0.mk (qAe (by repeat (first | (with_reducible first | exact HB.out | apply qAb | apply qAa | apply qAc) | exact HB.out)) hb); clear HB; have HO203 := n0_; have HB := n1_; clear n0_ n1_; (try clear hb); (try clear hb2); (try clear hk); (try clear hi); (try clear ho0); have hcv25 := qBu (P := Tryz.prog) Tryz.underlying26 Tryz.underlying5 Tryz.underlying9 (Kd.own_of_R HO203.out); have hcv26 := Kd.C_string (P := Tryz.prog) (A := (some ad192)) (c := c0) Tryz.underlying26 Tryz.underlying5 Tryz.underlying9 (Kd.C_below HR0.out HB.out); have hcvq27 := qA9 (P := Tryz.prog) (A := (some ad192)) (c := c0) Tryz.underlying26 Tryz.underlying5 Tryz.underlying9 (Kd.C_below HR0.out HB.out); (try clear A17))))
            refine bodyPost_ret (qA5 (rs := [.tmp 2, .tmp 3, .tmp 4, .tmp 5, .tmp 6]) rfl (by simp) (.tmp (.tmp (.tmp (.tmp (.tmp .nil)))))) rfl ?_
            exact ⟨by first | rfl | (simp [qAj, qAi] <;> rfl) | (simp [*, qAj, qAi] <;> rfl), by repeat (first | (with_reducible first | exact HB.out | apply qAb | apply qAa | apply qAc) | exact HB.out)⟩
           ·rw [if_neg c19] at H
            have c19b0 : ((strOfNums t200).toList == (strOfNums l0).toList) = false := beq_eq_false_iff_ne.mpr c19
            have c19b1 : ((strOfNums t200).toList != (strOfNums l0).toList) = true := bne_iff_ne.mpr c19
            simp only [Option.some.injEq, Prod.mk.injEq] at H
            obtain ⟨rfl, rfl, rfl, rfl, rfl⟩ := H
            obtain ⟨i028, hi028, _, hsz28, _⟩ := info_parts info5
            obtain ⟨hcut28, hA28, hC28⟩ := qCa (P := Tryz.prog) (Value.int .u8) 0 26 5 .i64 Tryz.underlying26 hi028 hsz28 A0 c0 l0 100 (by omega) (of_decide_eq_true (by first | (with_reducible assumption) | assumption)) HC0.out
            have HR188 := Aside0.mk (Kd.C_of_reads (h1 := fun _ => rfl) (hA28 _ (Kd.reads_of_C HR0.out)))
            have HC188 := Aside0.mk hC28
            clear hA28 hC28 hi028 hsz28
            obtain ⟨i029, hi029, _, hsz29, _⟩ := info_parts info5
            obtain ⟨A29, hcut29, hA29, hC29⟩ := qAm (P := Tryz.prog) (Value.int .u8) 0 26 5 .i64 .i64 Tryz.underlying26 hi029 hsz29 A0 c0 l0 157 257 (by omega) (by first | omega | exact of_decide_eq_true (by first | (with_reducible assumption) | assumption)) (of_decide_eq_true (by first | (with_reducible assumption) | assumption)) HC0.out
            have HR190 := Aside0.mk (Kd.C_of_reads (h1 := fun _ => rfl) (hA29 _ (Kd.reads_of_C HR0.out)))
            have HC190 := Aside0.mk hC29
            clear hA29 hC29 hi029 hsz29
            go_enter Tryz.func73, Tryz.ntmps73
            go_wp2_with (first | (go_at_call 91; (with_reducible refine (head_field.calls _ _ (l0.take 100) t189 _ ?side1 ?side2 ?side3 A4.out).mono ?_); (case side1 => exact ⟨Tabs.below hT.out (by repeat (first | (with_reducible first | exact HB.out | apply qAb | apply qAa | apply qAc) | exact HB.out))⟩); (case side2 => repeat (first | exact HR188.out | (with_reducible refine Kd.C_alloc ?_ _) | (with_reducible refine Kd.C_drewN ?_ _) | (with_reducible refine Kd.C_drew ?_))); (case side3 => exact HC188.out); rintro e w' ⟨rfl, ⟨nd, rfl⟩⟩; (try first | exact ⟨rfl, _, World.drewN_drewN _ _ _⟩ | exact ⟨rfl, _, Eq.trans (World.drewN_drewN _ _ _) (congrArg (World.drewN _) (Nat.add_assoc _ _ _))⟩)) | (go_at_call 91; (with_reducible refine (head_field.calls _ _ ((l0.take 257).drop 157) t191 _ ?side1 ?side2 ?side3 A7.out).mono ?_); (case side1 => exact ⟨Tabs.below hT.out (by repeat (first | (with_reducible first | exact HB.out | apply qAb | apply qAa | apply qAc) | exact HB.out))⟩); (case side2 => repeat (first | exact HR190.out | (with_reducible refine Kd.C_alloc ?_ _) | (with_reducible refine Kd.C_drewN ?_ _) | (with_reducible refine Kd.C_drew ?_))); (case side3 => exact HC190.out); rintro e w' ⟨rfl, ⟨nd, rfl⟩⟩; (try first | exact ⟨rfl, _, World.drewN_drewN _ _ _⟩ | exact ⟨rfl, _, Eq.trans (World.drewN_drewN _ _ _) (congrArg (World.drewN _) (Nat.add_assoc _ _ _))⟩); have p192 : 0 ≤ (156 : Int) := (by omega); have q192 : 156 < (l0.length : Int) := of_decide_eq_true (by first | (with_reducible assumption) | assumption); obtain ⟨ad192, e192, hx192_0⟩ := Kd.at_int HR0.out 156 p192 q192; cases e192; (try simp only [show (156 : Int).toNat = 156 from rfl, Nat.reduceMul, Nat.reduceEqDiff, Go.Addr.add, ↓reduceIte] at hx192_0); have qi192 : (156 < l0.length) = True := eq_true (by omega); (try rw [show ((156 : Int)).toNat = 156 from rfl] at hx192_0); replace p192 := eq_true p192; replace q192 := eq_true q192; obtain ⟨i030, hi030, _, hsz30, _⟩ := info_parts info5; obtain ⟨A30, hcut30, hA30, hC30⟩ := qAm (P := Tryz.prog) (Value.int .u8) 0 26 5 .i64 .i64 Tryz.underlying26 hi030 hsz30 (some ad192) c0 l0 100 108 (by omega) (by first | omega | exact of_decide_eq_true (by first | (with_reducible assumption) | assumption)) (of_decide_eq_true (by first | (with_reducible assumption) | assumption)) HC0.out; have HR193 := Aside0.mk (Kd.C_of_reads (h1 := fun _ => rfl) (hA30 _ (Kd.reads_of_C HR0.out))); have HC193 := Aside0.mk hC30; clear hA30 hC30 hi030 hsz30) | (go_at_call 91; (with_reducible refine (head_field.calls _ _ ((l0.take 108).drop 100) t194 _ ?side1 ?side2 ?side3 A11.out).mono ?_); (case side1 => exact ⟨Tabs.below hT.out (by repeat (first | (with_reducible first | exact HB.out | apply qAb | apply qAa | apply qAc) | exact HB.out))⟩); (case side2 => repeat (first | exact HR193.out | (with_reducible refine Kd.C_alloc ?_ _) | (with_reducible refine Kd.C_drewN ?_ _) | (with_reducible refine Kd.C_drew ?_))); (case side3 => exact HC193.out); rintro e w' ⟨rfl, ⟨nd, rfl⟩⟩; (try first | exact ⟨rfl, _, World.drewN_drewN _ _ _⟩ | exact ⟨rfl, _, Eq.trans (World.drewN_drewN _ _ _) (congrArg (World.drewN _) (Nat.add_assoc _ _ _))⟩)) | (go_at_call 92; (with_reducible refine (head_kind.calls (rd l0 156) t194 t195 _ A12.out).mono ?_); rintro e w' ⟨rfl, ⟨nd, rfl⟩⟩; (try first | exact ⟨rfl, _, World.drewN_drewN _ _ _⟩ | exact ⟨rfl, _, Eq.trans (World.drewN_drewN _ _ _) (congrArg (World.drewN _) (Nat.add_assoc _ _ _))⟩); obtain ⟨i031, hi031, _, hsz31, _⟩ := info_parts info5; obtain ⟨A31, hcut31, hA31, hC31⟩ := qAm (P := Tryz.prog) (Value.int .u8) 0 26 5 .i64 .i64 Tryz.underlying26 hi031 hsz31 (some ad192) c0 l0 124 136 (by omega) (by first | omega | exact of_decide_eq_true (by first | (with_reducible assumption) | assumption)) (of_decide_eq_true (by first | (with_reducible assumption) | assumption)) HC0.out; have HR196 := Aside0.mk (Kd.C_of_reads (h1 := fun _ => rfl) (hA31 _ (Kd.reads_of_C HR0.out))); have HC196 := Aside0.mk hC31; clear hA31 hC31 hi031 hsz31) | (go_at_call 91; (with_reducible refine (head_field.calls _ _ ((l0.take 136).drop 124) t197 _ ?side1 ?side2 ?side3 A15.out).mono ?_); (case side1 => exact ⟨Tabs.below hT.out (by repeat (first | (with_reducible first | exact HB.out | apply qAb | apply qAa | apply qAc) | exact HB.out))⟩); (case side2 => repeat (first | exact HR196.out | (with_reducible refine Kd.C_alloc ?_ _) | (with_reducible refine Kd.C_drewN ?_ _) | (with_reducible refine Kd.C_drew ?_))); (case side3 => exact HC196.out); rintro e w' ⟨rfl, ⟨nd, rfl⟩⟩; (try first | exact ⟨rfl, _, World.drewN_drewN _ _ _⟩ | exact ⟨rfl, _, Eq.trans (World.drewN_drewN _ _ _) (congrArg (World.drewN _) (Nat.add_assoc _ _ _))⟩)) | (go_at_call 93; (with_reducible refine (head_OfOctal.calls k t197 t198 t199 _ A16.out).mono ?_); rintro e w' ⟨rfl, ⟨nd, rfl⟩⟩; (try first | exact ⟨rfl, _, World.drewN_drewN _ _ _⟩ | exact ⟨rfl, _, Eq.trans (World.drewN_drewN _ _ _) (congrArg (World.drewN _) (Nat.add_assoc _ _ _))⟩)) | (go_at_call 79; (with_reducible refine (head_Lay.calls k t189 t195 t198 t191 t200 true _ ?side1 A17.out).mono ?_); (case side1 => exact ⟨Tabs.below hT.out (by repeat (first | (with_reducible first | exact HB.out | apply qAb | apply qAa | apply qAc) | exact HB.out))⟩); rintro e w32 ⟨v202, rfl, ho0, hb⟩; have n0_ := Aside0.mk (Kd.R_lower ho0 (qAo (by repeat (first | (with_reducible first | exact HB.out | apply qAb | apply qAa | apply qAc) | exact HB.out)))); have n1_ := Aside0.mk (qAe (by repeat (first | (with_reducible first | exact HB.out | apply qAb | apply qAa | apply qAc) | exact HB.out)) hb); clear HB; have HO203 := n0_; have HB := n1_; clear n0_ n1_; (try clear hb); (try clear hb2); (try clear hk); (try clear hi); (try clear ho0); have hcv33 := qBu (P := Tryz.prog) Tryz.underlying26 Tryz.underlying5 Tryz.underlying9 (Kd.own_of_R HO203.out); have hcv34 := Kd.C_string (P := Tryz.prog) (A := (some ad192)) (c := c0) Tryz.underlying26 Tryz.underlying5 Tryz.underlying9 (Kd.C_below HR0.out HB.out); have hcvq35 := qA9 (P := Tryz.prog) (A := (some ad192)) (c := c0) Tryz.underlying26 Tryz.underlying5 Tryz.underlying9 (Kd.C_below HR0.out HB.out)))
            repeat (go_quiet (first | (go_at_call 91; refine qAl (n' := (l0.take 100).length) (by first | rfl | simp) ?_; (with_reducible refine (head_field.calls _ _ (l0.take 100) t189 _ ?side1 ?side2 ?side3 A4.out).mono ?_); (case side1 => exact ⟨Tabs.below hT.out (by repeat (first | (with_reducible first | exact HB.out | apply qAb | apply qAa | apply qAc) | exact HB.out))⟩); (case side2 => repeat (first | exact HR188.out | (with_reducible refine Kd.C_alloc ?_ _) | (with_reducible refine Kd.C_drewN ?_ _) | (with_reducible refine Kd.C_drew ?_))); (case side3 => exact HC188.out); rintro e w' ⟨rfl, ⟨nd, rfl⟩⟩; (try first | exact ⟨rfl, _, World.drewN_drewN _ _ _⟩ | exact ⟨rfl, _, Eq.trans (World.drewN_drewN _ _ _) (congrArg (World.drewN _) (Nat.add_assoc _ _ _))⟩); (try clear A4)) | (go_at_call 91; refine qAl (n' := ((l0.take 257).drop 157).length) (by first | rfl | simp) ?_; (with_reducible refine (head_field.calls _ _ ((l0.take 257).drop 157) t191 _ ?side1 ?side2 ?side3 A7.out).mono ?_); (case side1 => exact ⟨Tabs.below hT.out (by repeat (first | (with_reducible first | exact HB.out | apply qAb | apply qAa | apply qAc) | exact HB.out))⟩); (case side2 => repeat (first | exact HR190.out | (with_reducible refine Kd.C_alloc ?_ _) | (with_reducible refine Kd.C_drewN ?_ _) | (with_reducible refine Kd.C_drew ?_))); (case side3 => exact HC190.out); rintro e w' ⟨rfl, ⟨nd, rfl⟩⟩; (try first | exact ⟨rfl, _, World.drewN_drewN _ _ _⟩ | exact ⟨rfl, _, Eq.trans (World.drewN_drewN _ _ _) (congrArg (World.drewN _) (Nat.add_assoc _ _ _))⟩); have p192 : 0 ≤ (156 : Int) := (by omega); have q192 : 156 < (l0.length : Int) := of_decide_eq_true (by first | (with_reducible assumption) | assumption); obtain ⟨ad192, e192, hx192_0⟩ := Kd.at_int HR0.out 156 p192 q192; cases e192; (try simp only [show (156 : Int).toNat = 156 from rfl, Nat.reduceMul, Nat.reduceEqDiff, Go.Addr.add, ↓reduceIte] at hx192_0); have qi192 : (156 < l0.length) = True := eq_true (by omega); (try rw [show ((156 : Int)).toNat = 156 from rfl] at hx192_0); replace p192 := eq_true p192; replace q192 := eq_true q192; obtain ⟨i030, hi030, _, hsz30, _⟩ := info_parts info5; obtain ⟨A30, hcut30, hA30, hC30⟩ := qAm (P := Tryz.prog) (Value.int .u8) 0 26 5 .i64 .i64 Tryz.underlying26 hi030 hsz30 (some ad192) c0 l0 100 108 (by omega) (by first | omega | exact of_decide_eq_true (by first | (with_reducible assumption) | assumption)) (of_decide_eq_true (by first | (with_reducible assumption) | assumption)) HC0.out; have HR193 := Aside0.mk (Kd.C_of_reads (h1 := fun _ => rfl) (hA30 _ (Kd.reads_of_C HR0.out))); have HC193 := Aside0.mk hC30; clear hA30 hC30 hi030 hsz30; (try clear A7)) | (go_at_call 91; refine qAl (n' := ((l0.take 108).drop 100).length) (by first | rfl | simp) ?_; (with_reducible refine (head_field.calls _ _ ((l0.take 108).drop 100) t194 _ ?side1 ?side2 ?side3 A11.out).mono ?_); (case side1 => exact ⟨Tabs.below hT.out (by repeat (first | (with_reducible first | exact HB.out | apply qAb | apply qAa | apply qAc) | exact HB.out))⟩); (case side2 => repeat (first | exact HR193.out | (with_reducible refine Kd.C_alloc ?_ _) | (with_reducible refine Kd.C_drewN ?_ _) | (with_reducible refine Kd.C_drew ?_))); (case side3 => exact HC193.out); rintro e w' ⟨rfl, ⟨nd, rfl⟩⟩; (try first | exact ⟨rfl, _, World.drewN_drewN _ _ _⟩ | exact ⟨rfl, _, Eq.trans (World.drewN_drewN _ _ _) (congrArg (World.drewN _) (Nat.add_assoc _ _ _))⟩); (try clear A11)) | (go_at_call 92; (with_reducible refine (head_kind.calls (rd l0 156) t194 t195 _ A12.out).mono ?_); rintro e w' ⟨rfl, ⟨nd, rfl⟩⟩; (try first | exact ⟨rfl, _, World.drewN_drewN _ _ _⟩ | exact ⟨rfl, _, Eq.trans (World.drewN_drewN _ _ _) (congrArg (World.drewN _) (Nat.add_assoc _ _ _))⟩); obtain ⟨i031, hi031, _, hsz31, _⟩ := info_parts info5; obtain ⟨A31, hcut31, hA31, hC31⟩ := qAm (P := Tryz.prog) (Value.int .u8) 0 26 5 .i64 .i64 Tryz.underlying26 hi031 hsz31 (some ad192) c0 l0 124 136 (by omega) (by first | omega | exact of_decide_eq_true (by first | (with_reducible assumption) | assumption)) (of_decide_eq_true (by first | (with_reducible assumption) | assumption)) HC0.out; have HR196 := Aside0.mk (Kd.C_of_reads (h1 := fun _ => rfl) (hA31 _ (Kd.reads_of_C HR0.out))); have HC196 := Aside0.mk hC31; clear hA31 hC31 hi031 hsz31; (try clear A12)) | (go_at_call 91; refine qAl (n' := ((l0.take 136).drop 124).length) (by first | rfl | simp) ?_; (with_reducible refine (head_field.calls _ _ ((l0.take 136).drop 124) t197 _ ?side1 ?side2 ?side3 A15.out).mono ?_); (case side1 => exact ⟨Tabs.below hT.out (by repeat (first | (with_reducible first | exact HB.out | apply qAb | apply qAa | apply qAc) | exact HB.out))⟩); (case side2 => repeat (first | exact HR196.out | (with_reducible refine Kd.C_alloc ?_ _) | (with_reducible refine Kd.C_drewN ?_ _) | (with_reducible refine Kd.C_drew ?_))); (case side3 => exact HC196.out); rintro e w' ⟨rfl, ⟨nd, rfl⟩⟩; (try first | exact ⟨rfl, _, World.drewN_drewN _ _ _⟩ | exact ⟨rfl, _, Eq.trans (World.drewN_drewN _ _ _) (congrArg (World.drewN _) (Nat.add_assoc _ _ _))⟩); (try clear A15)) | (go_at_call 93; (with_reducible refine (head_OfOctal.calls k t197 t198 t199 _ A16.out).mono ?_); rintro e w' ⟨rfl, ⟨nd, rfl⟩⟩; (try first | exact ⟨rfl, _, World.drewN_drewN _ _ _⟩ | exact ⟨rfl, _, Eq.trans (World.drewN_drewN _ _ _) (congrArg (World.drewN _) (Nat.add_assoc _ _ _))⟩); (try clear A16)) | (go_at_call 79; (with_reducible refine (head_Lay.calls k t189 t195 t198 t191 t200 true _ ?side1 A17.out).mono ?_); (case side1 => exact ⟨Tabs.below hT.out (by repeat (first | (with_reducible first | exact HB.out | apply qAb | apply qAa | apply qAc) | exact HB.out))⟩); rintro e w32 ⟨v202, rfl, ho0, hb⟩; have n0_ := Aside0.mk (Kd.R_lower ho0 (qAo (by repeat (first | (with_reducible first | exact HB.out | apply qAb | apply qAa | apply qAc) | exact HB.out)))); have n1_ := Aside0.mk (qAe (by repeat (first | (with_reducible first | exact HB.out | apply qAb | apply qAa | apply qAc) | exact HB.out)) hb); clear HB; have HO203 := n0_; have HB := n1_; clear n0_ n1_; (try clear hb); (try clear hb2); (try clear hk); (try clear hi); (try clear ho0); have hcv33 := qBu (P := Tryz.prog) Tryz.underlying26 Tryz.underlying5 Tryz.underlying9 (Kd.own_of_R HO203.out); have hcv34 := Kd.C_string (P := Tryz.prog) (A := (some ad192)) (c := c0) Tryz.underlying26 Tryz.underlying5 Tryz.underlying9 (Kd.C_below HR0.out HB.out); have hcvq35 := qA9 (P := Tryz.prog) (A := (some ad192)) (c := c0) Tryz.underlying26 Tryz.underlying5 Tryz.underlying9 (Kd.C_below HR0.out HB.out); (try clear A17))); try go_wp2_with (first | (go_at_call 91; refine qAl (n' := (l0.take 100).length) (by first | rfl | simp) ?_; (with_reducible refine (head_field.calls _ _ (l0.take 100) t189 _ ?side1 ?side2 ?side3 A4.out).mono ?_); (case side1 => exact ⟨Tabs.below hT.out (by repeat (first | (with_reducible first | exact HB.out | apply qAb | apply qAa | apply qAc) | exact HB.out))⟩); (case side2 => repeat (first | exact HR188.out | (with_reducible refine Kd.C_alloc ?_ _) | (with_reducible refine Kd.C_drewN ?_ _) | (with_reducible refine Kd.C_drew ?_))); (case side3 => exact HC188.out); rintro e w' ⟨rfl, ⟨nd, rfl⟩⟩; (try first | exact ⟨rfl, _, World.drewN_drewN _ _ _⟩ | exact ⟨rfl, _, Eq.trans (World.drewN_drewN _ _ _) (congrArg (World.drewN _) (Nat.add_assoc _ _ _))⟩); (try clear A4)) | (go_at_call 91; refine qAl (n' := ((l0.take 257).drop 157).length) (by first | rfl | simp) ?_; (with_reducible refine (head_field.calls _ _ ((l0.take 257).drop 157) t191 _ ?side1 ?side2 ?side3 A7.out).mono ?_); (case side1 => exact ⟨Tabs.below hT.out (by repeat (first | (with_reducible first | exact HB.out | apply qAb | apply qAa | apply qAc) | exact HB.out))⟩); (case side2 => repeat (first | exact HR190.out | (with_reducible refine Kd.C_alloc ?_ _) | (with_reducible refine Kd.C_drewN ?_ _) | (with_reducible refine Kd.C_drew ?_))); (case side3 => exact HC190.out); rintro e w' ⟨rfl, ⟨nd, rfl⟩⟩; (try first | exact ⟨rfl, _, World.drewN_drewN _ _ _⟩ | exact ⟨rfl, _, Eq.trans (World.drewN_drewN _ _ _) (congrArg (World.drewN _) (Nat.add_assoc _ _ _))⟩); have p192 : 0 ≤ (156 : Int) := (by omega); have q192 : 156 < (l0.length : Int) := of_decide_eq_true (by first | (with_reducible assumption) | assumption); obtain ⟨ad192, e192, hx192_0⟩ := Kd.at_int HR0.out 156 p192 q192; cases e192; (try simp only [show (156 : Int).toNat = 156 from rfl, Nat.reduceMul, Nat.reduceEqDiff, Go.Addr.add, ↓reduceIte] at hx192_0); have qi192 : (156 < l0.length) = True := eq_true (by omega); (try rw [show ((156 : Int)).toNat = 156 from rfl] at hx192_0); replace p192 := eq_true p192; replace q192 := eq_true q192; obtain ⟨i030, hi030, _, hsz30, _⟩ := info_parts info5; obtain ⟨A30, hcut30, hA30, hC30⟩ := qAm (P := Tryz.prog) (Value.int .u8) 0 26 5 .i64 .i64 Tryz.underlying26 hi030 hsz30 (some ad192) c0 l0 100 108 (by omega) (by first | omega | exact of_decide_eq_true (by first | (with_reducible assumption) | assumption)) (of_decide_eq_true (by first | (with_reducible assumption) | assumption)) HC0.out; have HR193 := Aside0.mk (Kd.C_of_reads (h1 := fun _ => rfl) (hA30 _ (Kd.reads_of_C HR0.out))); have HC193 := Aside0.mk hC30; clear hA30 hC30 hi030 hsz30; (try clear A7)) | (go_at_call 91; refine qAl (n' := ((l0.take 108).drop 100).length) (by first | rfl | simp) ?_; (with_reducible refine (head_field.calls _ _ ((l0.take 108).drop 100) t194 _ ?side1 ?side2 ?side3 A11.out).mono ?_); (case side1 => exact ⟨Tabs.below hT.out (by repeat (first | (with_reducible first | exact HB.out | apply qAb | apply qAa | apply qAc) | exact HB.out))⟩); (case side2 => repeat (first | exact HR193.out | (with_reducible refine Kd.C_alloc ?_ _) | (with_reducible refine Kd.C_drewN ?_ _) | (with_reducible refine Kd.C_drew ?_))); (case side3 => exact HC193.out); rintro e w' ⟨rfl, ⟨nd, rfl⟩⟩; (try first | exact ⟨rfl, _, World.drewN_drewN _ _ _⟩ | exact ⟨rfl, _, Eq.trans (World.drewN_drewN _ _ _) (congrArg (World.drewN _) (Nat.add_assoc _ _ _))⟩); (try clear A11)) | (go_at_call 92; (with_reducible refine (head_kind.calls (rd l0 156) t194 t195 _ A12.out).mono ?_); rintro e w' ⟨rfl, ⟨nd, rfl⟩⟩; (try first | exact ⟨rfl, _, World.drewN_drewN _ _ _⟩ | exact ⟨rfl, _, Eq.trans (World.drewN_drewN _ _ _) (congrArg (World.drewN _) (Nat.add_assoc _ _ _))⟩); obtain ⟨i031, hi031, _, hsz31, _⟩ := info_parts info5; obtain ⟨A31, hcut31, hA31, hC31⟩ := qAm (P := Tryz.prog) (Value.int .u8) 0 26 5 .i64 .i64 Tryz.underlying26 hi031 hsz31 (some ad192) c0 l0 124 136 (by omega) (by first | omega | exact of_decide_eq_true (by first | (with_reducible assumption) | assumption)) (of_decide_eq_true (by first | (with_reducible assumption) | assumption)) HC0.out; have HR196 := Aside0.mk (Kd.C_of_reads (h1 := fun _ => rfl) (hA31 _ (Kd.reads_of_C HR0.out))); have HC196 := Aside0.mk hC31; clear hA31 hC31 hi031 hsz31; (try clear A12)) | (go_at_call 91; refine qAl (n' := ((l0.take 136).drop 124).length) (by first | rfl | simp) ?_; (with_reducible refine (head_field.calls _ _ ((l0.take 136).drop 124) t197 _ ?side1 ?side2 ?side3 A15.out).mono ?_); (case side1 => exact ⟨Tabs.below hT.out (by repeat (first | (with_reducible first | exact HB.out | apply qAb | apply qAa | apply qAc) | exact HB.out))⟩); (case side2 => repeat (first | exact HR196.out | (with_reducible refine Kd.C_alloc ?_ _) | (with_reducible refine Kd.C_drewN ?_ _) | (with_reducible refine Kd.C_drew ?_))); (case side3 => exact HC196.out); rintro e w' ⟨rfl, ⟨nd, rfl⟩⟩; (try first | exact ⟨rfl, _, World.drewN_drewN _ _ _⟩ | exact ⟨rfl, _, Eq.trans (World.drewN_drewN _ _ _) (congrArg (World.drewN _) (Nat.add_assoc _ _ _))⟩); (try clear A15)) | (go_at_call 93; (with_reducible refine (head_OfOctal.calls k t197 t198 t199 _ A16.out).mono ?_); rintro e w' ⟨rfl, ⟨nd, rfl⟩⟩; (try first | exact ⟨rfl, _, World.drewN_drewN _ _ _⟩ | exact ⟨rfl, _, Eq.trans (World.drewN_drewN _ _ _) (congrArg (World.drewN _) (Nat.add_assoc _ _ _))⟩); (try clear A16)) | (go_at_call 79; (with_reducible refine (head_Lay.calls k t189 t195 t198 t191 t200 true _ ?side1 A17.out).mono ?_); (case side1 => exact ⟨Tabs.below hT.out (by repeat (first | (with_reducible first | exact HB.out | apply qAb | apply qAa | apply qAc) | exact HB.out))⟩); rintro e w32 ⟨v202, rfl, ho0, hb⟩; have n0_ := Aside0.mk (Kd.R_lower ho0 (qAo (by repeat (first | (with_reducible first | exact HB.out | apply qAb | apply qAa | apply qAc) | exact HB.out)))); have n1_ := Aside0.mk (qAe (by repeat (first | (with_reducible first | exact HB.out | apply qAb | apply qAa | apply qAc) | exact HB.out)) hb); clear HB; have HO203 := n0_; have HB := n1_; clear n0_ n1_; (try clear hb); (try clear hb2); (try clear hk); (try clear hi); (try clear ho0); have hcv33 := qBu (P := Tryz.prog) Tryz.underlying26 Tryz.underlying5 Tryz.underlying9 (Kd.own_of_R HO203.out); have hcv34 := Kd.C_string (P := Tryz.prog) (A := (some ad192)) (c := c0) Tryz.underlying26 Tryz.underlying5 Tryz.underlying9 (Kd.C_below HR0.out HB.out); have hcvq35 := qA9 (P := Tryz.prog) (A := (some ad192)) (c := c0) Tryz.underlying26 Tryz.underlying5 Tryz.underlying9 (Kd.C_below HR0.out HB.out); (try clear A17))))
            refine bodyPost_ret (qA5 (rs := [.tmp 2, .tmp 3, .tmp 4, .tmp 5, .tmp 6]) rfl (by simp) (.tmp (.tmp (.tmp (.tmp (.tmp .nil)))))) rfl ?_
            exact ⟨by first | rfl | (simp [qAj, qAi] <;> rfl) | (simp [*, qAj, qAi] <;> rfl), by repeat (first | (with_reducible first | exact HB.out | apply qAb | apply qAa | apply qAc) | exact HB.out)⟩
          ·replace c18 := Bool.eq_false_iff.mpr c18
           subst c18
           have H1 : (some ((⟨#[]⟩ : ByteArray), 0, 0, (⟨#[]⟩ : ByteArray), false)) = some (r1, r2, r3, r4, r5) := by rw [if_neg (show ¬ (false = true) by decide)] at H; exact H
           clear H
           have H := H1
           clear H1
           simp only [Option.some.injEq, Prod.mk.injEq] at H
           obtain ⟨rfl, rfl, rfl, rfl, rfl⟩ := H
           obtain ⟨i036, hi036, _, hsz36, _⟩ := info_parts info5
           obtain ⟨hcut36, hA36, hC36⟩ := qCa (P := Tryz.prog) (Value.int .u8) 0 26 5 .i64 Tryz.underlying26 hi036 hsz36 A0 c0 l0 100 (by omega) (of_decide_eq_true (by first | (with_reducible assumption) | assumption)) HC0.out
           have HR188 := Aside0.mk (Kd.C_of_reads (h1 := fun _ => rfl) (hA36 _ (Kd.reads_of_C HR0.out)))
           have HC188 := Aside0.mk hC36
           clear hA36 hC36 hi036 hsz36
           obtain ⟨i037, hi037, _, hsz37, _⟩ := info_parts info5
           obtain ⟨A37, hcut37, hA37, hC37⟩ := qAm (P := Tryz.prog) (Value.int .u8) 0 26 5 .i64 .i64 Tryz.underlying26 hi037 hsz37 A0 c0 l0 157 257 (by omega) (by first | omega | exact of_decide_eq_true (by first | (with_reducible assumption) | assumption)) (of_decide_eq_true (by first | (with_reducible assumption) | assumption)) HC0.out
           have HR190 := Aside0.mk (Kd.C_of_reads (h1 := fun _ => rfl) (hA37 _ (Kd.reads_of_C HR0.out)))
           have HC190 := Aside0.mk hC37
           clear hA37 hC37 hi037 hsz37
           go_enter Tryz.func73, Tryz.ntmps73
           go_wp2_with (first | (go_at_call 91; (with_reducible refine (head_field.calls _ _ (l0.take 100) t189 _ ?side1 ?side2 ?side3 A4.out).mono ?_); (case side1 => exact ⟨Tabs.below hT.out (by repeat (first | (with_reducible first | exact HB.out | apply qAb | apply qAa | apply qAc) | exact HB.out))⟩); (case side2 => repeat (first | exact HR188.out | (with_reducible refine Kd.C_alloc ?_ _) | (with_reducible refine Kd.C_drewN ?_ _) | (with_reducible refine Kd.C_drew ?_))); (case side3 => exact HC188.out); rintro e w' ⟨rfl, ⟨nd, rfl⟩⟩; (try first | exact ⟨rfl, _, World.drewN_drewN _ _ _⟩ | exact ⟨rfl, _, Eq.trans (World.drewN_drewN _ _ _) (congrArg (World.drewN _) (Nat.add_assoc _ _ _))⟩)) | (go_at_call 91; (with_reducible refine (head_field.calls _ _ ((l0.take 257).drop 157) t191 _ ?side1 ?side2 ?side3 A7.out).mono ?_); (case side1 => exact ⟨Tabs.below hT.out (by repeat (first | (with_reducible first | exact HB.out | apply qAb | apply qAa | apply qAc) | exact HB.out))⟩); (case side2 => repeat (first | exact HR190.out | (with_reducible refine Kd.C_alloc ?_ _) | (with_reducible refine Kd.C_drewN ?_ _) | (with_reducible refine Kd.C_drew ?_))); (case side3 => exact HC190.out); rintro e w' ⟨rfl, ⟨nd, rfl⟩⟩; (try first | exact ⟨rfl, _, World.drewN_drewN _ _ _⟩ | exact ⟨rfl, _, Eq.trans (World.drewN_drewN _ _ _) (congrArg (World.drewN _) (Nat.add_assoc _ _ _))⟩); have p192 : 0 ≤ (156 : Int) := (by omega); have q192 : 156 < (l0.length : Int) := of_decide_eq_true (by first | (with_reducible assumption) | assumption); obtain ⟨ad192, e192, hx192_0⟩ := Kd.at_int HR0.out 156 p192 q192; cases e192; (try simp only [show (156 : Int).toNat = 156 from rfl, Nat.reduceMul, Nat.reduceEqDiff, Go.Addr.add, ↓reduceIte] at hx192_0); have qi192 : (156 < l0.length) = True := eq_true (by omega); (try rw [show ((156 : Int)).toNat = 156 from rfl] at hx192_0); replace p192 := eq_true p192; replace q192 := eq_true q192; obtain ⟨i038, hi038, _, hsz38, _⟩ := info_parts info5; obtain ⟨A38, hcut38, hA38, hC38⟩ := qAm (P := Tryz.prog) (Value.int .u8) 0 26 5 .i64 .i64 Tryz.underlying26 hi038 hsz38 (some ad192) c0 l0 100 108 (by omega) (by first | omega | exact of_decide_eq_true (by first | (with_reducible assumption) | assumption)) (of_decide_eq_true (by first | (with_reducible assumption) | assumption)) HC0.out; have HR193 := Aside0.mk (Kd.C_of_reads (h1 := fun _ => rfl) (hA38 _ (Kd.reads_of_C HR0.out))); have HC193 := Aside0.mk hC38; clear hA38 hC38 hi038 hsz38) | (go_at_call 91; (with_reducible refine (head_field.calls _ _ ((l0.take 108).drop 100) t194 _ ?side1 ?side2 ?side3 A11.out).mono ?_); (case side1 => exact ⟨Tabs.below hT.out (by repeat (first | (with_reducible first | exact HB.out | apply qAb | apply qAa | apply qAc) | exact HB.out))⟩); (case side2 => repeat (first | exact HR193.out | (with_reducible refine Kd.C_alloc ?_ _) | (with_reducible refine Kd.C_drewN ?_ _) | (with_reducible refine Kd.C_drew ?_))); (case side3 => exact HC193.out); rintro e w' ⟨rfl, ⟨nd, rfl⟩⟩; (try first | exact ⟨rfl, _, World.drewN_drewN _ _ _⟩ | exact ⟨rfl, _, Eq.trans (World.drewN_drewN _ _ _) (congrArg (World.drewN _) (Nat.add_assoc _ _ _))⟩)) | (go_at_call 92; (with_reducible refine (head_kind.calls (rd l0 156) t194 t195 _ A12.out).mono ?_); rintro e w' ⟨rfl, ⟨nd, rfl⟩⟩; (try first | exact ⟨rfl, _, World.drewN_drewN _ _ _⟩ | exact ⟨rfl, _, Eq.trans (World.drewN_drewN _ _ _) (congrArg (World.drewN _) (Nat.add_assoc _ _ _))⟩); obtain ⟨i039, hi039, _, hsz39, _⟩ := info_parts info5; obtain ⟨A39, hcut39, hA39, hC39⟩ := qAm (P := Tryz.prog) (Value.int .u8) 0 26 5 .i64 .i64 Tryz.underlying26 hi039 hsz39 (some ad192) c0 l0 124 136 (by omega) (by first | omega | exact of_decide_eq_true (by first | (with_reducible assumption) | assumption)) (of_decide_eq_true (by first | (with_reducible assumption) | assumption)) HC0.out; have HR196 := Aside0.mk (Kd.C_of_reads (h1 := fun _ => rfl) (hA39 _ (Kd.reads_of_C HR0.out))); have HC196 := Aside0.mk hC39; clear hA39 hC39 hi039 hsz39) | (go_at_call 91; (with_reducible refine (head_field.calls _ _ ((l0.take 136).drop 124) t197 _ ?side1 ?side2 ?side3 A15.out).mono ?_); (case side1 => exact ⟨Tabs.below hT.out (by repeat (first | (with_reducible first | exact HB.out | apply qAb | apply qAa | apply qAc) | exact HB.out))⟩); (case side2 => repeat (first | exact HR196.out | (with_reducible refine Kd.C_alloc ?_ _) | (with_reducible refine Kd.C_drewN ?_ _) | (with_reducible refine Kd.C_drew ?_))); (case side3 => exact HC196.out); rintro e w' ⟨rfl, ⟨nd, rfl⟩⟩; (try first | exact ⟨rfl, _, World.drewN_drewN _ _ _⟩ | exact ⟨rfl, _, Eq.trans (World.drewN_drewN _ _ _) (congrArg (World.drewN _) (Nat.add_assoc _ _ _))⟩)) | (go_at_call 93; (with_reducible refine (head_OfOctal.calls k t197 t198 t199 _ A16.out).mono ?_); rintro e w' ⟨rfl, ⟨nd, rfl⟩⟩; (try first | exact ⟨rfl, _, World.drewN_drewN _ _ _⟩ | exact ⟨rfl, _, Eq.trans (World.drewN_drewN _ _ _) (congrArg (World.drewN _) (Nat.add_assoc _ _ _))⟩)) | (go_at_call 79; (with_reducible refine (head_Lay.calls k t189 t195 t198 t191 t200 false _ ?side1 A17.out).mono ?_); (case side1 => exact ⟨Tabs.below hT.out (by repeat (first | (with_reducible first | exact HB.out | apply qAb | apply qAa | apply qAc) | exact HB.out))⟩); rintro e w40 ⟨v202, rfl, ho0, hb⟩; have n0_ := Aside0.mk (Kd.R_lower ho0 (qAo (by repeat (first | (with_reducible first | exact HB.out | apply qAb | apply qAa | apply qAc) | exact HB.out)))); have n1_ := Aside0.mk (qAe (by repeat (first | (with_reducible first | exact HB.out | apply qAb | apply qAa | apply qAc) | exact HB.out)) hb); clear HB; have HO203 := n0_; have HB := n1_; clear n0_ n1_; (try clear hb); (try clear hb2); (try clear hk); (try clear hi); (try clear ho0)))
           repeat (go_quiet (first | (go_at_call 91; refine qAl (n' := (l0.take 100).length) (by first | rfl | simp) ?_; (with_reducible refine (head_field.calls _ _ (l0.take 100) t189 _ ?side1 ?side2 ?side3 A4.out).mono ?_); (case side1 => exact ⟨Tabs.below hT.out (by repeat (first | (with_reducible first | exact HB.out | apply qAb | apply qAa | apply qAc) | exact HB.out))⟩); (case side2 => repeat (first | exact HR188.out | (with_reducible refine Kd.C_alloc ?_ _) | (with_reducible refine Kd.C_drewN ?_ _) | (with_reducible refine Kd.C_drew ?_))); (case side3 => exact HC188.out); rintro e w' ⟨rfl, ⟨nd, rfl⟩⟩; (try first | exact ⟨rfl, _, World.drewN_drewN _ _ _⟩ | exact ⟨rfl, _, Eq.trans (World.drewN_drewN _ _ _) (congrArg (World.drewN _) (Nat.add_assoc _ _ _))⟩); (try clear A4)) | (go_at_call 91; refine qAl (n' := ((l0.take 257).drop 157).length) (by first | rfl | simp) ?_; (with_reducible refine (head_field.calls _ _ ((l0.take 257).drop 157) t191 _ ?side1 ?side2 ?side3 A7.out).mono ?_); (case side1 => exact ⟨Tabs.below hT.out (by repeat (first | (with_reducible first | exact HB.out | apply qAb | apply qAa | apply qAc) | exact HB.out))⟩); (case side2 => repeat (first | exact HR190.out | (with_reducible refine Kd.C_alloc ?_ _) | (with_reducible refine Kd.C_drewN ?_ _) | (with_reducible refine Kd.C_drew ?_))); (case side3 => exact HC190.out); rintro e w' ⟨rfl, ⟨nd, rfl⟩⟩; (try first | exact ⟨rfl, _, World.drewN_drewN _ _ _⟩ | exact ⟨rfl, _, Eq.trans (World.drewN_drewN _ _ _) (congrArg (World.drewN _) (Nat.add_assoc _ _ _))⟩); have p192 : 0 ≤ (156 : Int) := (by omega); have q192 : 156 < (l0.length : Int) := of_decide_eq_true (by first | (with_reducible assumption) | assumption); obtain ⟨ad192, e192, hx192_0⟩ := Kd.at_int HR0.out 156 p192 q192; cases e192; (try simp only [show (156 : Int).toNat = 156 from rfl, Nat.reduceMul, Nat.reduceEqDiff, Go.Addr.add, ↓reduceIte] at hx192_0); have qi192 : (156 < l0.length) = True := eq_true (by omega); (try rw [show ((156 : Int)).toNat = 156 from rfl] at hx192_0); replace p192 := eq_true p192; replace q192 := eq_true q192; obtain ⟨i038, hi038, _, hsz38, _⟩ := info_parts info5; obtain ⟨A38, hcut38, hA38, hC38⟩ := qAm (P := Tryz.prog) (Value.int .u8) 0 26 5 .i64 .i64 Tryz.underlying26 hi038 hsz38 (some ad192) c0 l0 100 108 (by omega) (by first | omega | exact of_decide_eq_true (by first | (with_reducible assumption) | assumption)) (of_decide_eq_true (by first | (with_reducible assumption) | assumption)) HC0.out; have HR193 := Aside0.mk (Kd.C_of_reads (h1 := fun _ => rfl) (hA38 _ (Kd.reads_of_C HR0.out))); have HC193 := Aside0.mk hC38; clear hA38 hC38 hi038 hsz38; (try clear A7)) | (go_at_call 91; refine qAl (n' := ((l0.take 108).drop 100).length) (by first | rfl | simp) ?_; (with_reducible refine (head_field.calls _ _ ((l0.take 108).drop 100) t194 _ ?side1 ?side2 ?side3 A11.out).mono ?_); (case side1 => exact ⟨Tabs.below hT.out (by repeat (first | (with_reducible first | exact HB.out | apply qAb | apply qAa | apply qAc) | exact HB.out))⟩); (case side2 => repeat (first | exact HR193.out | (with_reducible refine Kd.C_alloc ?_ _) | (with_reducible refine Kd.C_drewN ?_ _) | (with_reducible refine Kd.C_drew ?_))); (case side3 => exact HC193.out); rintro e w' ⟨rfl, ⟨nd, rfl⟩⟩; (try first | exact ⟨rfl, _, World.drewN_drewN _ _ _⟩ | exact ⟨rfl, _, Eq.trans (World.drewN_drewN _ _ _) (congrArg (World.drewN _) (Nat.add_assoc _ _ _))⟩); (try clear A11)) | (go_at_call 92; (with_reducible refine (head_kind.calls (rd l0 156) t194 t195 _ A12.out).mono ?_); rintro e w' ⟨rfl, ⟨nd, rfl⟩⟩; (try first | exact ⟨rfl, _, World.drewN_drewN _ _ _⟩ | exact ⟨rfl, _, Eq.trans (World.drewN_drewN _ _ _) (congrArg (World.drewN _) (Nat.add_assoc _ _ _))⟩); obtain ⟨i039, hi039, _, hsz39, _⟩ := info_parts info5; obtain ⟨A39, hcut39, hA39, hC39⟩ := qAm (P := Tryz.prog) (Value.int .u8) 0 26 5 .i64 .i64 Tryz.underlying26 hi039 hsz39 (some ad192) c0 l0 124 136 (by omega) (by first | omega | exact of_decide_eq_true (by first | (with_reducible assumption) | assumption)) (of_decide_eq_true (by first | (with_reducible assumption) | assumption)) HC0.out; have HR196 := Aside0.mk (Kd.C_of_reads (h1 := fun _ => rfl) (hA39 _ (Kd.reads_of_C HR0.out))); have HC196 := Aside0.mk hC39; clear hA39 hC39 hi039 hsz39; (try clear A12)) | (go_at_call 91; refine qAl (n' := ((l0.take 136).drop 124).length) (by first | rfl | simp) ?_; (with_reducible refine (head_field.calls _ _ ((l0.take 136).drop 124) t197 _ ?side1 ?side2 ?side3 A15.out).mono ?_); (case side1 => exact ⟨Tabs.below hT.out (by repeat (first | (with_reducible first | exact HB.out | apply qAb | apply qAa | apply qAc) | exact HB.out))⟩); (case side2 => repeat (first | exact HR196.out | (with_reducible refine Kd.C_alloc ?_ _) | (with_reducible refine Kd.C_drewN ?_ _) | (with_reducible refine Kd.C_drew ?_))); (case side3 => exact HC196.out); rintro e w' ⟨rfl, ⟨nd, rfl⟩⟩; (try first | exact ⟨rfl, _, World.drewN_drewN _ _ _⟩ | exact ⟨rfl, _, Eq.trans (World.drewN_drewN _ _ _) (congrArg (World.drewN _) (Nat.add_assoc _ _ _))⟩); (try clear A15)) | (go_at_call 93; (with_reducible refine (head_OfOctal.calls k t197 t198 t199 _ A16.out).mono ?_); rintro e w' ⟨rfl, ⟨nd, rfl⟩⟩; (try first | exact ⟨rfl, _, World.drewN_drewN _ _ _⟩ | exact ⟨rfl, _, Eq.trans (World.drewN_drewN _ _ _) (congrArg (World.drewN _) (Nat.add_assoc _ _ _))⟩); (try clear A16)) | (go_at_call 79; (with_reducible refine (head_Lay.calls k t189 t195 t198 t191 t200 false _ ?side1 A17.out).mono ?_); (case side1 => exact ⟨Tabs.below hT.out (by repeat (first | (with_reducible first | exact HB.out | apply qAb | apply qAa | apply qAc) | exact HB.out))⟩); rintro e w40 ⟨v202, rfl, ho0, hb⟩; have n0_ := Aside0.mk (Kd.R_lower ho0 (qAo (by repeat (first | (with_reducible first | exact HB.out | apply qAb | apply qAa | apply qAc) | exact HB.out)))); have n1_ := Aside0.mk (qAe (by repeat (first | (with_reducible first | exact HB.out | apply qAb | apply qAa | apply qAc) | exact HB.out)) hb); clear HB; have HO203 := n0_; have HB := n1_; clear n0_ n1_; (try clear hb); (try clear hb2); (try clear hk); (try clear hi); (try clear ho0); (try clear A17))); try go_wp2_with (first | (go_at_call 91; refine qAl (n' := (l0.take 100).length) (by first | rfl | simp) ?_; (with_reducible refine (head_field.calls _ _ (l0.take 100) t189 _ ?side1 ?side2 ?side3 A4.out).mono ?_); (case side1 => exact ⟨Tabs.below hT.out (by repeat (first | (with_reducible first | exact HB.out | apply qAb | apply qAa | apply qAc) | exact HB.out))⟩); (case side2 => repeat (first | exact HR188.out | (with_reducible refine Kd.C_alloc ?_ _) | (with_reducible refine Kd.C_drewN ?_ _) | (with_reducible refine Kd.C_drew ?_))); (case side3 => exact HC188.out); rintro e w' ⟨rfl, ⟨nd, rfl⟩⟩; (try first | exact ⟨rfl, _, World.drewN_drewN _ _ _⟩ | exact ⟨rfl, _, Eq.trans (World.drewN_drewN _ _ _) (congrArg (World.drewN _) (Nat.add_assoc _ _ _))⟩); (try clear A4)) | (go_at_call 91; refine qAl (n' := ((l0.take 257).drop 157).length) (by first | rfl | simp) ?_; (with_reducible refine (head_field.calls _ _ ((l0.take 257).drop 157) t191 _ ?side1 ?side2 ?side3 A7.out).mono ?_); (case side1 => exact ⟨Tabs.below hT.out (by repeat (first | (with_reducible first | exact HB.out | apply qAb | apply qAa | apply qAc) | exact HB.out))⟩); (case side2 => repeat (first | exact HR190.out | (with_reducible refine Kd.C_alloc ?_ _) | (with_reducible refine Kd.C_drewN ?_ _) | (with_reducible refine Kd.C_drew ?_))); (case side3 => exact HC190.out); rintro e w' ⟨rfl, ⟨nd, rfl⟩⟩; (try first | exact ⟨rfl, _, World.drewN_drewN _ _ _⟩ | exact ⟨rfl, _, Eq.trans (World.drewN_drewN _ _ _) (congrArg (World.drewN _) (Nat.add_assoc _ _ _))⟩); have p192 : 0 ≤ (156 : Int) := (by omega); have q192 : 156 < (l0.length : Int) := of_decide_eq_true (by first | (with_reducible assumption) | assumption); obtain ⟨ad192, e192, hx192_0⟩ := Kd.at_int HR0.out 156 p192 q192; cases e192; (try simp only [show (156 : Int).toNat = 156 from rfl, Nat.reduceMul, Nat.reduceEqDiff, Go.Addr.add, ↓reduceIte] at hx192_0); have qi192 : (156 < l0.length) = True := eq_true (by omega); (try rw [show ((156 : Int)).toNat = 156 from rfl] at hx192_0); replace p192 := eq_true p192; replace q192 := eq_true q192; obtain ⟨i038, hi038, _, hsz38, _⟩ := info_parts info5; obtain ⟨A38, hcut38, hA38, hC38⟩ := qAm (P := Tryz.prog) (Value.int .u8) 0 26 5 .i64 .i64 Tryz.underlying26 hi038 hsz38 (some ad192) c0 l0 100 108 (by omega) (by first | omega | exact of_decide_eq_true (by first | (with_reducible assumption) | assumption)) (of_decide_eq_true (by first | (with_reducible assumption) | assumption)) HC0.out; have HR193 := Aside0.mk (Kd.C_of_reads (h1 := fun _ => rfl) (hA38 _ (Kd.reads_of_C HR0.out))); have HC193 := Aside0.mk hC38; clear hA38 hC38 hi038 hsz38; (try clear A7)) | (go_at_call 91; refine qAl (n' := ((l0.take 108).drop 100).length) (by first | rfl | simp) ?_; (with_reducible refine (head_field.calls _ _ ((l0.take 108).drop 100) t194 _ ?side1 ?side2 ?side3 A11.out).mono ?_); (case side1 => exact ⟨Tabs.below hT.out (by repeat (first | (with_reducible first | exact HB.out | apply qAb | apply qAa | apply qAc) | exact HB.out))⟩); (case side2 => repeat (first | exact HR193.out | (with_reducible refine Kd.C_alloc ?_ _) | (with_reducible refine Kd.C_drewN ?_ _) | (with_reducible refine Kd.C_drew ?_))); (case side3 => exact HC193.out); rintro e w' ⟨rfl, ⟨nd, rfl⟩⟩; (try first | exact ⟨rfl, _, World.drewN_drewN _ _ _⟩ | exact ⟨rfl, _, Eq.trans (World.drewN_drewN _ _ _) (congrArg (World.drewN _) (Nat.add_assoc _ _ _))⟩); (try clear A11)) | (go_at_call 92; (with_reducible refine (head_kind.calls (rd l0 156) t194 t195 _ A12.out).mono ?_); rintro e w' ⟨rfl, ⟨nd, rfl⟩⟩; (try first | exact ⟨rfl, _, World.drewN_drewN _ _ _⟩ | exact ⟨rfl, _, Eq.trans (World.drewN_drewN _ _ _) (congrArg (World.drewN _) (Nat.add_assoc _ _ _))⟩); obtain ⟨i039, hi039, _, hsz39, _⟩ := info_parts info5; obtain ⟨A39, hcut39, hA39, hC39⟩ := qAm (P := Tryz.prog) (Value.int .u8) 0 26 5 .i64 .i64 Tryz.underlying26 hi039 hsz39 (some ad192) c0 l0 124 136 (by omega) (by first | omega | exact of_decide_eq_true (by first | (with_reducible assumption) | assumption)) (of_decide_eq_true (by first | (with_reducible assumption) | assumption)) HC0.out; have HR196 := Aside0.mk (Kd.C_of_reads (h1 := fun _ => rfl) (hA39 _ (Kd.reads_of_C HR0.out))); have HC196 := Aside0.mk hC39; clear hA39 hC39 hi039 hsz39; (try clear A12)) | (go_at_call 91; refine qAl (n' := ((l0.take 136).drop 124).length) (by first | rfl | simp) ?_; (with_reducible refine (head_field.calls _ _ ((l0.take 136).drop 124) t197 _ ?side1 ?side2 ?side3 A15.out).mono ?_); (case side1 => exact ⟨Tabs.below hT.out (by repeat (first | (with_reducible first | exact HB.out | apply qAb | apply qAa | apply qAc) | exact HB.out))⟩); (case side2 => repeat (first | exact HR196.out | (with_reducible refine Kd.C_alloc ?_ _) | (with_reducible refine Kd.C_drewN ?_ _) | (with_reducible refine Kd.C_drew ?_))); (case side3 => exact HC196.out); rintro e w' ⟨rfl, ⟨nd, rfl⟩⟩; (try first | exact ⟨rfl, _, World.drewN_drewN _ _ _⟩ | exact ⟨rfl, _, Eq.trans (World.drewN_drewN _ _ _) (congrArg (World.drewN _) (Nat.add_assoc _ _ _))⟩); (try clear A15)) | (go_at_call 93; (with_reducible refine (head_OfOctal.calls k t197 t198 t199 _ A16.out).mono ?_); rintro e w' ⟨rfl, ⟨nd, rfl⟩⟩; (try first | exact ⟨rfl, _, World.drewN_drewN _ _ _⟩ | exact ⟨rfl, _, Eq.trans (World.drewN_drewN _ _ _) (congrArg (World.drewN _) (Nat.add_assoc _ _ _))⟩); (try clear A16)) | (go_at_call 79; (with_reducible refine (head_Lay.calls k t189 t195 t198 t191 t200 false _ ?side1 A17.out).mono ?_); (case side1 => exact ⟨Tabs.below hT.out (by repeat (first | (with_reducible first | exact HB.out | apply qAb | apply qAa | apply qAc) | exact HB.out))⟩); rintro e w40 ⟨v202, rfl, ho0, hb⟩; have n0_ := Aside0.mk (Kd.R_lower ho0 (qAo (by repeat (first | (with_reducible first | exact HB.out | apply qAb | apply qAa | apply qAc) | exact HB.out)))); have n1_ := Aside0.mk (qAe (by repeat (first | (with_reducible first | exact HB.out | apply qAb | apply qAa | apply qAc) | exact HB.out)) hb); clear HB; have HO203 := n0_; have HB := n1_; clear n0_ n1_; (try clear hb); (try clear hb2); (try clear hk); (try clear hi); (try clear ho0); (try clear A17))))
           refine bodyPost_ret (qA5 (rs := [.tmp 2, .tmp 3, .tmp 4, .tmp 5, .tmp 6]) rfl (by simp) (.tmp (.tmp (.tmp (.tmp (.tmp .nil)))))) rfl ?_
           exact ⟨by first | rfl | (simp [qAj, qAi] <;> rfl) | (simp [*, qAj, qAi] <;> rfl), by repeat (first | (with_reducible first | exact HB.out | apply qAb | apply qAa | apply qAc) | exact HB.out)⟩
         ·rw [if_neg c14] at H
          exact absurd H (by simp)
        ·rw [if_neg c13] at H
         exact absurd H (by simp)
       ·rw [if_neg c10] at H
        exact absurd H (by simp)
      ·rw [if_neg c9] at H
       exact absurd H (by simp)
     ·rw [if_neg c8] at H
      exact absurd H (by simp)
    ·rw [if_neg c6] at H
     exact absurd H (by simp)
   ·rw [if_neg c5] at H
    exact absurd H (by simp)
  ·rw [if_neg c3] at H
   exact absurd H (by simp)
 ·rw [if_neg c2] at H
  have c2b0 : ((l0.length : Int) == 512) = false := beq_eq_false_iff_ne.mpr c2
  have c2b1 : ((l0.length : Int) != 512) = true := bne_iff_ne.mpr c2
  simp only [Option.some.injEq, Prod.mk.injEq] at H
  obtain ⟨rfl, rfl, rfl, rfl, rfl⟩ := H
  go_enter Tryz.func73, Tryz.ntmps73
  go_wp2
  repeat (go_quiet (fail); try go_wp2)
  refine bodyPost_ret (qA5 (rs := [.tmp 2, .tmp 3, .tmp 4, .tmp 5, .tmp 6]) rfl (by simp) (.tmp (.tmp (.tmp (.tmp (.tmp .nil)))))) rfl ?_
  exact ⟨by first | rfl | (simp [qAj, qAi] <;> rfl) | (simp [*, qAj, qAi] <;> rfl), by repeat (first | (with_reducible first | exact HB.out | apply qAb | apply qAa | apply qAc) | exact HB.out)⟩
end Go.Proofs.YtdijnmcfpbceaaaGreatDoor.P

namespace Go.Proofs.YtdijnmcfpbceaaaGreatDoor.P
open Go.Proofs.YtdijnmcfpbceaaaGreatDoor.X
open Go.RowKit Go.Proofs.YtdijnmcfpbceaaaGreatDoorW.PrintWords Go.Proofs.YtdijnmcfpbceaaaGreatDoorW.PrintLast Go.Proofs.YtdijnmcfpbceaaaGreatDoorW.PrintMore
attribute [local go_sem] qAr qAu
set_option linter.unusedVariables false
set_option linter.unusedSimpArgs false
def hogsheadref12_field.l0 : Nat → List Int → Int → Option (ByteArray)
 | 0, _, _ => none
 | k + 1, x0, x3 => if x3 < (x0.length : Int) then (if 0 ≤ x3 then (if (rd x0 x3) = 0 then (if x3 ≤ (x0.length : Int) then (some (strOfNums (x0.take (x3 : Int).toNat))) else (none)) else (hogsheadref12_field.l0 k x0 (wrap64 (x3 + 1)))) else (none)) else (if 0 ≤ x3 then (if x3 ≤ (x0.length : Int) then (some (strOfNums (x0.take (x3 : Int).toNat))) else (none)) else (none))
def hogsheadref12_field.f (k : Nat) (l0 : List Int) : Option (ByteArray) := hogsheadref12_field.l0 k l0 0
end Go.Proofs.YtdijnmcfpbceaaaGreatDoor.P

namespace Go.Proofs.YtdijnmcfpbceaaaGreatDoor.P
open Go.Proofs.YtdijnmcfpbceaaaGreatDoor.X
open Go.RowKit Go.Proofs.YtdijnmcfpbceaaaGreatDoorW.PrintWords Go.Proofs.YtdijnmcfpbceaaaGreatDoorW.PrintLast Go.Proofs.YtdijnmcfpbceaaaGreatDoorW.PrintMore
attribute [local go_sem] qAr qAu
set_option linter.unusedVariables false
set_option linter.unusedSimpArgs false
def hogsheadref12_Read.l0 : Nat → List Int → ByteArray → ByteArray → Int → Int → Option (ByteArray × Int × Int × ByteArray × Bool)
 | 0, _, _, _, _, _ => none
 | k + 1, x0, x7, x8, x9, x11 => if x11 ≤ 5 then ((hogsheadref12_Lay.f k x7 x11 x9 x8).bind fun bt214 => (if bt214.2 = true then (if (strOfNums bt214.1).toList = (strOfNums x0).toList then (some (x7, x11, x9, x8, true)) else (hogsheadref12_Read.l0 k x0 x7 x8 x9 (wrap64 (x11 + 1)))) else (hogsheadref12_Read.l0 k x0 x7 x8 x9 (wrap64 (x11 + 1))))) else (some ((⟨#[]⟩ : ByteArray), 0, 0, (⟨#[]⟩ : ByteArray), false))
def hogsheadref12_Read.f (k : Nat) (l0 : List Int) : Option (ByteArray × Int × Int × ByteArray × Bool) := if (l0.length : Int) = 512 then (if 100 ≤ (l0.length : Int) then ((hogsheadref12_field.f k (l0.take 100)).bind fun t208 => (if 157 ≤ 257 then (if 257 ≤ (l0.length : Int) then ((hogsheadref12_field.f k ((l0.take 257).drop 157)).bind fun t210 => (if 124 ≤ 135 then (if 135 ≤ (l0.length : Int) then ((hogsheadref12_OfOctal.f k (strOfNums ((l0.take 135).drop 124))).bind fun bt212 => (hogsheadref12_Read.l0 k l0 t208 t210 bt212.1 1)) else (none)) else (none))) else (none)) else (none))) else (none)) else (some ((⟨#[]⟩ : ByteArray), 0, 0, (⟨#[]⟩ : ByteArray), false))
end Go.Proofs.YtdijnmcfpbceaaaGreatDoor.P
