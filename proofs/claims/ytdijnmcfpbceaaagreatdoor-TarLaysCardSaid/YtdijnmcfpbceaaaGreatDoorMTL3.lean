/- Part 3 of what is behind the row RowTarLays: XCI, XUL, Pf105, Pf106, Pf80, XSA, XSB, XSC, Pf81, Pf82, Pf63, XSD, Pf62, Pf64, XSE, XSF, Pf36, Pf34, XSG, XSH, XSN, Pf13, XSO. -/
import Derived.Test.YtdijnmcfpbceaaaGreatDoorMTL2
import Derived.Maps.OwnOps
import Derived.Maps.Views
import Derived.StringKeys
import Derived.Outline
import Derived.WalkLawsBesides
import Derived.WalkSpells
import Derived.LoopTactic
import Derived.Laws.Bits64b
import Derived.Laws.BytesArg
import Derived.Lib.Hide
import Derived.Laws.NewBlocks
import Derived.Lib.AppendIntMem
import Derived.Shelf.Strings.Builder1
import Derived.Shelf.Strings.Builder2
import Derived.Shelf.Small.Utf8
import Derived.Shelf.Small.Strs
import Derived.Shelf.Strings.BuilderF
import Derived.Shelf.Strings.BuilderK
import Derived.Shelf.Strconv.Atoi
import Derived.Shelf.Strconv.Itoa0
import Derived.Shelf.Strconv.Itoa1
import Derived.Shelf.LaysM
import Derived.Shelf.Strconv.Itoa2
import Derived.Shelf.Strconv.Itoa3
import Derived.Shelf.Strconv.Itoa4
import Derived.Shelf.Strconv.AtoiErrFast
import Derived.Shelf.Strconv.ParseIntEmpty
import Derived.Shelf.Strconv.AtoiFail
import Derived.Shelf.Strconv.Clone
import Derived.Shelf.Strconv.SyntaxError
import Derived.Shelf.LaysC
import Derived.Shelf.Strconv.ToError
import Derived.Shelf.Strconv.Lower
import Derived.Shelf.Strconv.ParseUint10
import Derived.Shelf.Strconv.ParseUint10Empty
import Derived.Shelf.Strconv.ParseUint10Any
import Derived.Shelf.Strconv.ParseInt10
import Derived.Shelf.Strconv.AtoiLong
import Derived.Shelf.Strconv.AtoiInnerAll
import Derived.Shelf.Strconv.RangeError
import Derived.Shelf.Strconv.ToErrorRange
import Derived.Shelf.Strconv.AtoiAll
import Derived.Shelf.Strings.Search1
import Derived.Shelf.Strings.Search2
import Derived.Shelf.Strings.Search3
import Derived.Shelf.Strings.Cut
import Derived.Shelf.Strings.Count
import Derived.Shelf.Strings.Shaped
import Derived.Shelf.Strings.Prefix
import Derived.Shelf.Strings.Split
import Derived.Shelf.Bits.Mul64
import Derived.Shelf.Strings.Repeat
import Derived.Shelf.Unicode.DecodeSlow
import Derived.Shelf.Bytes.Small
import Derived.Test.YtdijnmcfpbceaaaGreatDoorProg
import Derived.WalkKit
import Derived.Lib.ItoaNum
import Derived.Lib.ItoaMem
import Derived.Below
import Derived.Deep.Draws
import Derived.Deep.AppendLies
import Derived.Maps.AppendAt
import Derived.OwnWalk
import Derived.Laws.MakeOwn
import Derived.Laws.OwnMore
import Derived.Deep.OwnRows
import Derived.Tactics
import Derived.Lib.ConvBytes
import Derived.Laws.Slices
import Derived.KernelRfl
import Derived.RowKit3
import Derived.Deep.LoopGhost
import Derived.Deep.QuietTactic
import Derived.BigQuiet
import Derived.WideLaws
import Derived.Deep.DeepCutAuto
import Derived.Deep.CutBlock
import Derived.Deep.RegionHeld3
import Derived.Laws.Rows
import Derived.Lib.AppendStr
import Derived.ArgAppend
import Derived.Laws.IdiomCopy
import Derived.RowKit
import Derived.OrdersHeld
import Derived.Laws.BitsLemmas
import Derived.Laws.Cover1
import Derived.Laws.StructEq
import Derived.Lib.SplitLaws
import Derived.Lib.IndexBytes
import Derived.Lib.IndexLaws
import Derived.Lib.LastIndexByte
import Derived.Lib.IndexMore
import Derived.Lib.Bytealg
import Derived.Laws.BitsAllLaws
import Derived.Lib.Repeat
import Derived.Lib.AppendZerosOnto
import Derived.Lib.BufferWrite
import Derived.Laws.CopyOwn
import Derived.Lib.Strings
import Derived.Lib.AtoiTie
namespace Go.Proofs.YtdijnmcfpbceaaaGreatDoor.X
open Go.RowKit Go.Proofs.YtdijnmcfpbceaaaGreatDoorW.PrintWords Go.Proofs.YtdijnmcfpbceaaaGreatDoorW.PrintLast Go.Proofs.YtdijnmcfpbceaaaGreatDoorW.PrintMore Go.Proofs.YtdijnmcfpbceaaaGreatDoor.P
set_option linter.unusedVariables false
set_option linter.unusedSimpArgs false
def bigN (n : S47) : Bool := decide (300 < n.f0.size) || decide (500 < n.f2.size)
def greatN (t : List S47) (most : Nat) : Bool := decide (most < t.length) || t.any bigN
theorem greatN_false {t : List S47} {m : Nat} (h : greatN t m = false) : t.length ≤ m ∧ ∀ n ∈ t, n.f0.size ≤ 300 ∧ n.f2.size ≤ 500 := by
  unfold greatN at h
  rw [Bool.or_eq_false_iff, decide_eq_false_iff_not, List.any_eq_false] at h
  refine ⟨by omega, fun n hn => ?_⟩
  have h1 := h.2 n hn
  unfold bigN at h1
  rw [Bool.or_eq_true, decide_eq_true_eq, decide_eq_true_eq] at h1
  omega
set_option maxHeartbeats 4000000 in
set_option maxRecDepth 100000 in
theorem greatNodes_calls (A0 : Option Addr) (c0 : Nat) (t : List S47) (m : Nat) (w : World) (hC : Kd.C k47 w A0 t.length t) (hc : t.length ≤ c0) (hm : m ≤ 100000) :
    Calls Tryz.prog 7 #[.slice A0 t.length c0, .int .i64 m] w fun e w' => e = .returned (.bool (greatN t m)) ∧ Below w.heap.size w w' := by
  have X := Aside0.mk hC
  have hmx : t.length ≤ 9223372036854775807 := hC.2.1
  clear hC
  go_enter Tryz.func7, Tryz.ntmps7
  obtain ⟨bm, hbm⟩ : ∃ b, decide (m < t.length) = b := ⟨_, rfl⟩
  have HBM := Aside0.mk hbm
  have hle : decide ((t.length : Int) ≤ (m : Int)) = !bm := by rw [← hbm, ← decide_not, decide_eq_decide]; omega
  have hgt : decide ((m : Int) < (t.length : Int)) = bm := by rw [← hbm, decide_eq_decide]; omega
  have hlen : decide (t.length ≤ m) = !bm := by rw [← hbm, ← decide_not, decide_eq_decide]; omega
  go_wp2_with fail
  go_loopw [5] (fun v5 wr => ∃ i : Nat, v5 = .int .i64 i ∧ i ≤ t.length ∧ Aside0 (wr = w) ∧ Aside0 (∀ n ∈ t.take i, bigN n = false)) (fun a _ => t.length - (intOf a).toNat)
  case atStart => exact ⟨0, rfl, by omega, ⟨rfl⟩, ⟨by intro n hn; cases hn⟩⟩
  case round =>
    obtain ⟨i, rfl, hi, HW, HA⟩ := hrel
    obtain rfl := HW.out
    by_cases hil : i < t.length
    · have hic : decide ((i : Int) < (t.length : Int)) = true := decide_eq_true (by omega)
      have hi0 : 0 ≤ (i : Int) := by omega
      cases bm with
      | true =>
        go_wp2_with fail
        go_ret
        exact ⟨by unfold greatN; rw [HBM.out]; rfl, Below.refl _ _⟩
      | false =>
        obtain ⟨ad, rfl, z0, z1, z2⟩ := at_T47 X.out (i : Int) (by omega) (by omega)
        simp only [Int.toNat_natCast] at z0 z1 z2
        have HX := Aside0.mk (rdN_get t i hil)
        have HN := Aside0.mk (show ∀ n ∈ t.take (i + 1), n ∈ t.take i ∨ n = rd_T47 t (i : Int) from fun n hn => by
          rw [List.take_succ_eq_append_getElem hil, List.mem_append, List.mem_singleton] at hn
          rw [HX.out]
          exact hn)
        have HM := Aside0.mk (show rd_T47 t (i : Int) ∈ t from by rw [HX.out]; exact List.getElem_mem _)
        generalize rd_T47 t (i : Int) = x at *
        obtain ⟨b0, hb0⟩ : ∃ b, decide ((300 : Int) < (x.f0.size : Int)) = b := ⟨_, rfl⟩
        obtain ⟨b2, hb2⟩ : ∃ b, decide ((500 : Int) < (x.f2.size : Int)) = b := ⟨_, rfl⟩
        have HG := Aside0.mk (show bigN x = (b0 || b2) from by
          unfold bigN
          rw [← hb0, ← hb2]
          congr 1 <;> (rw [decide_eq_decide]; omega))
        cases hbb : (b0 || b2) with
        | true =>
          have HF := Aside0.mk (show greatN t m = true from by
            unfold greatN
            rw [Bool.or_eq_true]
            refine .inr (List.any_eq_true.2 ⟨x, HM.out, ?_⟩)
            rw [HG.out, hbb])
          cases b0 <;> cases b2 <;> first
          | (cases hbb; done)
          | (go_wp2_with fail
             go_ret
             exact ⟨by rw [HF.out]; rfl, Below.refl _ _⟩)
        | false =>
          obtain rfl : b0 = false := by cases b0 <;> first | rfl | cases hbb
          obtain rfl : b2 = false := by cases b2 <;> first | rfl | cases hbb
          clear hbb
          go_wp2_with fail
          refine ⟨⟨i + 1, by simp, by omega, ⟨by trivial⟩, ⟨fun n hn => ?_⟩⟩, by simp only [intOf]; omega⟩
          rcases HN.out n hn with h | h
          · exact HA.out n h
          · rw [h, HG.out]
            rfl
    · have hic : decide ((i : Int) < (t.length : Int)) = false := decide_eq_false (by omega)
      have hi2 : i = t.length := by omega
      have HF := Aside0.mk (show greatN t m = bm from by
        unfold greatN
        rw [HBM.out]
        have : t.any bigN = false := by
          rw [List.any_eq_false]
          intro n hn
          rw [hi2, List.take_length] at HA
          rw [HA.out n hn]
          exact Bool.false_ne_true
        rw [this, Bool.or_false])
      subst hi2
      cases bm with
      | true =>
        go_wp2_with fail
        go_ret
        exact ⟨by rw [HF.out]; rfl, Below.refl _ _⟩
      | false =>
        go_wp2_with fail
        go_ret
        exact ⟨by rw [HF.out]; rfl, Below.refl _ _⟩
end Go.Proofs.YtdijnmcfpbceaaaGreatDoor.X

namespace Go.Proofs.YtdijnmcfpbceaaaGreatDoor.X
open Go.RowKit Go.Proofs.YtdijnmcfpbceaaaGreatDoorW.PrintWords Go.Proofs.YtdijnmcfpbceaaaGreatDoorW.PrintLast Go.Proofs.YtdijnmcfpbceaaaGreatDoorW.PrintMore Go.Proofs.YtdijnmcfpbceaaaGreatDoor.P
set_option linter.unusedVariables false
set_option linter.unusedSimpArgs false
theorem sameBytes_calls (A0 : Option Addr) (c0 : Nat) (a : List Int) (A1 : Option Addr) (c1 : Nat) (w : World) (hr0 : (Kd.int .u8).C w A0 a.length a) (hc0 : a.length ≤ c0) (hr1 : (Kd.int .u8).C w A1 a.length a) (hc1 : a.length ≤ c1) :
    Calls Tryz.prog 12 #[.slice A0 a.length c0, .slice A1 a.length c1] w fun e w' => e = .returned (.bool true) ∧ Below w.heap.size w w' := by
  obtain ⟨K, hK⟩ := sameBytes_eq a a hr0.2.1
  have h1 : hogsheadlaw0_SameBytes.f K a a = some true := by
    have := hK K (Nat.le_refl _)
    simpa using this
  exact (hogsheadlaw0_SameBytes.calls K A0 c0 a A1 c1 a true w hr0 hc0 hr1 hc1 h1).mono fun e w' ⟨h1, h2⟩ => ⟨h1, h2.below⟩
end Go.Proofs.YtdijnmcfpbceaaaGreatDoor.X

namespace Go.Proofs.YtdijnmcfpbceaaaGreatDoor.P
open Go.Proofs.YtdijnmcfpbceaaaGreatDoor.X
open Go.RowKit Go.Proofs.YtdijnmcfpbceaaaGreatDoorW.PrintWords Go.Proofs.YtdijnmcfpbceaaaGreatDoorW.PrintLast Go.Proofs.YtdijnmcfpbceaaaGreatDoorW.PrintMore
attribute [local go_sem] min2_int min_two
set_option linter.unusedVariables false
set_option linter.unusedSimpArgs false
def hogsheadref1_Cut.l0 : Nat → ByteArray → List ByteArray → Int → Int → Option (List ByteArray)
 | 0, _, _, _, _ => none
 | k + 1, x0, x3, x4, x5 => if x5 ≤ (x0.size : Int) then (if x5 = (x0.size : Int) then (if 0 ≤ x4 then (if x4 ≤ x5 then (if x3.length < 8796093022208 then (hogsheadref1_Cut.l0 k x0 (x3 ++ [x0.extract (x4 : Int).toNat (x5 : Int).toNat]) (wrap64 (x5 + 1)) (wrap64 (x5 + 1))) else (none)) else (none)) else (none)) else (if 0 ≤ x5 then (if x5 < (x0.size : Int) then (if (bt x0 x5) = 47 then (if 0 ≤ x4 then (if x4 ≤ x5 then (if x3.length < 8796093022208 then (hogsheadref1_Cut.l0 k x0 (x3 ++ [x0.extract (x4 : Int).toNat (x5 : Int).toNat]) (wrap64 (x5 + 1)) (wrap64 (x5 + 1))) else (none)) else (none)) else (none)) else (hogsheadref1_Cut.l0 k x0 x3 x4 (wrap64 (x5 + 1)))) else (none)) else (none))) else (some x3)
def hogsheadref1_Cut.f (k : Nat) (a0 : ByteArray) : Option (List ByteArray) := hogsheadref1_Cut.l0 k a0 ([] : List ByteArray) 0 0
set_option maxHeartbeats 8000000 in
set_option maxRecDepth 100000 in
theorem hogsheadref1_Cut.calls (k : Nat) (a0 : ByteArray) (r : List ByteArray) (w : World) (h : hogsheadref1_Cut.f k a0 = some r) :
  Calls Tryz.prog 105 #[.string a0] w fun e w' => ∃ v0_ : Value, e = .returned (v0_) ∧ Kd.R Kd.string 9 w' w.heap.size (fun _ => True) v0_ r ∧ Below w.heap.size w w' := by
 have HB := Aside0.mk (Below.refl w.heap.size w)
 have H : (hogsheadref1_Cut.l0 k a0 ([] : List ByteArray) 0 0) = some r := h
 clear h
 have H' := Aside0.mk H
 clear H
 go_enter Tryz.func105, Tryz.ntmps105
 go_wp2
 go_loopg [3, 4, 5] k (fun kq v3 v4 v5 w' => ∃ (x3_1 : List ByteArray) (x4_1 : Int) (x5_1 : Int), v4 = .int .i64 x4_1 ∧ v5 = .int .i64 x5_1 ∧ Aside0 (hogsheadref1_Cut.l0 kq a0 x3_1 x4_1 x5_1 = some r) ∧ Aside0 (kq ≤ k) ∧ Aside0 (Kd.R Kd.string 9 w' w.heap.size (fun _ => True) v3 x3_1) ∧ Aside0 (Below w.heap.size w w'))
 case atStart => exact ⟨(([] : List ByteArray)), (0), (0), (by first | rfl | (simp; done) | (simp [*]; done) | exact congrArg Value.bool (nil_ne _) | exact congrArg Value.bool (nil_eq _) | exact congrArg Value.bool (nil_ne' _)), (by first | rfl | (simp; done) | (simp [*]; done) | exact congrArg Value.bool (nil_ne _) | exact congrArg Value.bool (nil_eq _) | exact congrArg Value.bool (nil_ne' _)), H', ⟨Nat.le_refl _⟩, ⟨by first | exact Kd.R_nil _ _ _ _ _ | exact Kd.N_nil _ _ _ _ _ | exact Kd.V_nil _ _ _ _ _ | exact Kd.Q_nil _ _ _ _ _ | exact Kd.S_nil _ _ _ _ _⟩, ⟨by repeat (first | (with_reducible first | exact HB.out | apply below_alloc | apply pw_below_drewN | apply below_drew1) | exact HB.out)⟩⟩
 case round =>
  clear H'
  try clear c1
  obtain ⟨x3_1, x4_1, x5_1, rfl, rfl, HA, HK1, HO_3, HB⟩ := hrel
  cases gk with
  | zero => exact absurd HA.out (by simp [hogsheadref1_Cut.l0])
  | succ k1 =>
   have H := HA.out
   clear HA
   simp only [hogsheadref1_Cut.l0] at H
   by_cases c2 : x5_1 ≤ (a0.size : Int)
   ·rw [if_pos c2] at H
    have c2b0 : decide (x5_1 ≤ (a0.size : Int)) = true := decide_eq_true c2
    clear c2
    by_cases c3 : x5_1 = (a0.size : Int)
    ·rw [if_pos c3] at H
     have c3b0 : (x5_1 == (a0.size : Int)) = true := beq_iff_eq.mpr c3
     have c3b1 : (x5_1 != (a0.size : Int)) = false := bne_eq_false_iff_eq.mpr c3
     clear c3
     by_cases c4 : 0 ≤ x4_1
     ·rw [if_pos c4] at H
      have c4b0 := eq_true c4
      have c4b1 : decide (0 ≤ x4_1) = true := decide_eq_true c4
      clear c4
      by_cases c5 : x4_1 ≤ x5_1
      ·rw [if_pos c5] at H
       have c5b0 := eq_true c5
       have c5b1 : decide (x4_1 ≤ x5_1) = true := decide_eq_true c5
       clear c5
       have c6b0 := eq_true (of_decide_eq_true (by first | (with_reducible assumption) | assumption) : x5_1 ≤ (a0.size : Int))
       by_cases c7 : x3_1.length < 8796093022208
       ·rw [if_pos c7] at H
        have LMc7 := Aside0.mk c7
        clear c7
        obtain ⟨y115, hy115⟩ : ∃ y_ : List ByteArray, y_ = (x3_1 ++ [a0.extract (x4_1 : Int).toNat (x5_1 : Int).toNat]) := ⟨_, rfl⟩
        replace H : (hogsheadref1_Cut.l0 k1 a0 y115 (wrap64 (x5_1 + 1)) (wrap64 (x5_1 + 1))) = some r := by first | (rw [hy115]; with_reducible exact H) | (have H2_ := (Option.bind_some _ _).symm.trans H; rw [hy115]; with_reducible exact H2_) | (have H2_ := (Option.bind_some _ _).symm.trans H; with_reducible exact H2_) | with_reducible exact H | (rw [hy115]; exact H) | exact H
        have Ny115 := Aside0.mk hy115
        clear hy115
        have H' := Aside0.mk H
        clear H
        go_wp2_with (first | ((with_reducible refine gate_builtin (b := .append) (xs := #[.tmp 22, .tmp 27]) rfl ?_); at_builtin; refine Kd.R_append Kd.string (w0 := w) w.heap.size rfl (.tmp 22) (.tmp 27) 43 9 (.string ⟨#[]⟩) 16 rfl Tryz.underlying43 info9 rfl (by decide) (by omega) u3 x3_1 (a0.extract (x4_1 : Int).toNat (x5_1 : Int).toNat) [.string (a0.extract (x4_1 : Int).toNat (x5_1 : Int).toNat)] (fun _ => True) (fun _ => False) rfl rfl ?aP (fun _ hk => hk.elim) ?aF ?aO ?aB ?aS ?aL ?_; (case aP => exact rfl); (case aB => exact (by repeat (first | (with_reducible first | exact HB.out | apply below_alloc | apply pw_below_drewN | apply below_drew1) | exact HB.out))); (case aF => exact (fun _ _ => trivial)); (case aO => exact (by (with_reducible repeat (first | apply Kd.R_alloc | apply Kd.R_drewN | apply Kd.R_drew)); exact HO_3.out)); (case aS => exact (below_size (by repeat (first | (with_reducible first | exact HB.out | apply below_alloc | apply pw_below_drewN | apply below_drew1) | exact HB.out)))); (case aL => have := LMc7.out; omega); intro v116 w8 ho hb hg hat; rw [← Ny115.out] at ho; have n0_ := Aside0.mk (hb); have n1_ := Aside0.mk (ho); clear HB; clear HO_3; have HB := n0_; have HO117 := n1_; clear n0_ n1_; clear ho hb hg hat))
        go_roundg k1
        case measure => have := HK1.out; omega
        case rel => exact ⟨(y115), (wrap64 (x5_1 + 1)), (wrap64 (x5_1 + 1)), (by first | rfl | (simp; done) | (simp [*]; done) | exact congrArg Value.bool (nil_ne _) | exact congrArg Value.bool (nil_eq _) | exact congrArg Value.bool (nil_ne' _)), (by first | rfl | (simp; done) | (simp [*]; done) | exact congrArg Value.bool (nil_ne _) | exact congrArg Value.bool (nil_eq _) | exact congrArg Value.bool (nil_ne' _)), H', ⟨by have := HK1.out; omega⟩, ⟨by (with_reducible repeat (first | apply Kd.R_alloc | apply Kd.R_drewN | apply Kd.R_drew)); exact HO117.out⟩, ⟨by repeat (first | (with_reducible first | exact HB.out | apply below_alloc | apply pw_below_drewN | apply below_drew1) | exact HB.out)⟩⟩
       ·rw [if_neg c7] at H
        exact absurd H (by simp)
      ·rw [if_neg c5] at H
       exact absurd H (by simp)
     ·rw [if_neg c4] at H
      exact absurd H (by simp)
    ·rw [if_neg c3] at H
     have c3b0 : (x5_1 == (a0.size : Int)) = false := beq_eq_false_iff_ne.mpr c3
     have c3b1 : (x5_1 != (a0.size : Int)) = true := bne_iff_ne.mpr c3
     by_cases c9 : 0 ≤ x5_1
     ·rw [if_pos c9] at H
      have c9b0 : decide (0 ≤ x5_1) = true := decide_eq_true c9
      clear c9
      by_cases c10 : x5_1 < (a0.size : Int)
      ·rw [if_pos c10] at H
       have c10b0 : decide (x5_1 < (a0.size : Int)) = true := decide_eq_true c10
       clear c10
       by_cases c12 : (bt a0 x5_1) = 47
       ·rw [if_pos c12] at H
        have c12b0 : ((bt a0 x5_1) == 47) = true := beq_iff_eq.mpr c12
        have c12b1 : ((bt a0 x5_1) != 47) = false := bne_eq_false_iff_eq.mpr c12
        clear c12
        by_cases c13 : 0 ≤ x4_1
        ·rw [if_pos c13] at H
         have c13b0 := eq_true c13
         have c13b1 : decide (0 ≤ x4_1) = true := decide_eq_true c13
         clear c13
         by_cases c14 : x4_1 ≤ x5_1
         ·rw [if_pos c14] at H
          have c14b0 := eq_true c14
          have c14b1 : decide (x4_1 ≤ x5_1) = true := decide_eq_true c14
          clear c14
          have c15b0 := eq_true (of_decide_eq_true (by first | (with_reducible assumption) | assumption) : x5_1 ≤ (a0.size : Int))
          by_cases c16 : x3_1.length < 8796093022208
          ·rw [if_pos c16] at H
           have LMc16 := Aside0.mk c16
           clear c16
           obtain ⟨y118, hy118⟩ : ∃ y_ : List ByteArray, y_ = (x3_1 ++ [a0.extract (x4_1 : Int).toNat (x5_1 : Int).toNat]) := ⟨_, rfl⟩
           replace H : (hogsheadref1_Cut.l0 k1 a0 y118 (wrap64 (x5_1 + 1)) (wrap64 (x5_1 + 1))) = some r := by first | (rw [hy118]; with_reducible exact H) | (have H2_ := (Option.bind_some _ _).symm.trans H; rw [hy118]; with_reducible exact H2_) | (have H2_ := (Option.bind_some _ _).symm.trans H; with_reducible exact H2_) | with_reducible exact H | (rw [hy118]; exact H) | exact H
           have Ny118 := Aside0.mk hy118
           clear hy118
           have H' := Aside0.mk H
           clear H
           have p11 : 0 ≤ (x5_1 : Int) := of_decide_eq_true (by first | (with_reducible assumption) | assumption)
           have q11 : x5_1 < (a0.size : Int) := of_decide_eq_true (by first | (with_reducible assumption) | assumption)
           have hx11 := bt_at a0 x5_1
           replace p11 := eq_true p11
           replace q11 := eq_true q11
           go_wp2_with (first | ((with_reducible refine gate_builtin (b := .append) (xs := #[.tmp 22, .tmp 27]) rfl ?_); at_builtin; refine Kd.R_append Kd.string (w0 := w) w.heap.size rfl (.tmp 22) (.tmp 27) 43 9 (.string ⟨#[]⟩) 16 rfl Tryz.underlying43 info9 rfl (by decide) (by omega) u3 x3_1 (a0.extract (x4_1 : Int).toNat (x5_1 : Int).toNat) [.string (a0.extract (x4_1 : Int).toNat (x5_1 : Int).toNat)] (fun _ => True) (fun _ => False) rfl rfl ?aP (fun _ hk => hk.elim) ?aF ?aO ?aB ?aS ?aL ?_; (case aP => exact rfl); (case aB => exact (by repeat (first | (with_reducible first | exact HB.out | apply below_alloc | apply pw_below_drewN | apply below_drew1) | exact HB.out))); (case aF => exact (fun _ _ => trivial)); (case aO => exact (by (with_reducible repeat (first | apply Kd.R_alloc | apply Kd.R_drewN | apply Kd.R_drew)); exact HO_3.out)); (case aS => exact (below_size (by repeat (first | (with_reducible first | exact HB.out | apply below_alloc | apply pw_below_drewN | apply below_drew1) | exact HB.out)))); (case aL => have := LMc16.out; omega); intro v119 w17 ho hb hg hat; rw [← Ny118.out] at ho; have n0_ := Aside0.mk (hb); have n1_ := Aside0.mk (ho); clear HB; clear HO_3; have HB := n0_; have HO120 := n1_; clear n0_ n1_; clear ho hb hg hat))
           go_roundg k1
           case measure => have := HK1.out; omega
           case rel => exact ⟨(y118), (wrap64 (x5_1 + 1)), (wrap64 (x5_1 + 1)), (by first | rfl | (simp; done) | (simp [*]; done) | exact congrArg Value.bool (nil_ne _) | exact congrArg Value.bool (nil_eq _) | exact congrArg Value.bool (nil_ne' _)), (by first | rfl | (simp; done) | (simp [*]; done) | exact congrArg Value.bool (nil_ne _) | exact congrArg Value.bool (nil_eq _) | exact congrArg Value.bool (nil_ne' _)), H', ⟨by have := HK1.out; omega⟩, ⟨by (with_reducible repeat (first | apply Kd.R_alloc | apply Kd.R_drewN | apply Kd.R_drew)); exact HO120.out⟩, ⟨by repeat (first | (with_reducible first | exact HB.out | apply below_alloc | apply pw_below_drewN | apply below_drew1) | exact HB.out)⟩⟩
          ·rw [if_neg c16] at H
           exact absurd H (by simp)
         ·rw [if_neg c14] at H
          exact absurd H (by simp)
        ·rw [if_neg c13] at H
         exact absurd H (by simp)
       ·rw [if_neg c12] at H
        have c12b0 : ((bt a0 x5_1) == 47) = false := beq_eq_false_iff_ne.mpr c12
        have c12b1 : ((bt a0 x5_1) != 47) = true := bne_iff_ne.mpr c12
        have H' := Aside0.mk H
        clear H
        have p11 : 0 ≤ (x5_1 : Int) := of_decide_eq_true (by first | (with_reducible assumption) | assumption)
        have q11 : x5_1 < (a0.size : Int) := of_decide_eq_true (by first | (with_reducible assumption) | assumption)
        have hx11 := bt_at a0 x5_1
        replace p11 := eq_true p11
        replace q11 := eq_true q11
        go_wp2
        go_roundg k1
        case measure => have := HK1.out; omega
        case rel => exact ⟨(x3_1), (x4_1), (wrap64 (x5_1 + 1)), (by first | rfl | (simp; done) | (simp [*]; done) | exact congrArg Value.bool (nil_ne _) | exact congrArg Value.bool (nil_eq _) | exact congrArg Value.bool (nil_ne' _)), (by first | rfl | (simp; done) | (simp [*]; done) | exact congrArg Value.bool (nil_ne _) | exact congrArg Value.bool (nil_eq _) | exact congrArg Value.bool (nil_ne' _)), H', ⟨by have := HK1.out; omega⟩, ⟨by (with_reducible repeat (first | apply Kd.R_alloc | apply Kd.R_drewN | apply Kd.R_drew)); exact HO_3.out⟩, ⟨by repeat (first | (with_reducible first | exact HB.out | apply below_alloc | apply pw_below_drewN | apply below_drew1) | exact HB.out)⟩⟩
      ·rw [if_neg c10] at H
       exact absurd H (by simp)
     ·rw [if_neg c9] at H
      exact absurd H (by simp)
   ·rw [if_neg c2] at H
    have c2b0 : decide (x5_1 ≤ (a0.size : Int)) = false := decide_eq_false c2
    clear c2
    obtain rfl := Option.some.inj H
    go_wp2
    go_ret
    exact ⟨_, by first | rfl | (simp [errW_none, errW_some] <;> rfl) | (simp [*, errW_none, errW_some] <;> rfl), by (with_reducible repeat (first | apply Kd.R_alloc | apply Kd.R_drewN | apply Kd.R_drew)); exact HO_3.out, by repeat (first | (with_reducible first | exact HB.out | apply below_alloc | apply pw_below_drewN | apply below_drew1) | exact HB.out)⟩
end Go.Proofs.YtdijnmcfpbceaaaGreatDoor.P

namespace Go.Proofs.YtdijnmcfpbceaaaGreatDoor.P
open Go.Proofs.YtdijnmcfpbceaaaGreatDoor.X
open Go.RowKit Go.Proofs.YtdijnmcfpbceaaaGreatDoorW.PrintWords Go.Proofs.YtdijnmcfpbceaaaGreatDoorW.PrintLast Go.Proofs.YtdijnmcfpbceaaaGreatDoorW.PrintMore
attribute [local go_sem] min2_int min_two
set_option linter.unusedVariables false
set_option linter.unusedSimpArgs false
def hogsheadref1_Part.l0 : Nat → ByteArray → Int → Option (Bool)
 | 0, _, _ => none
 | k + 1, x0, x3 => if x3 < (x0.size : Int) then (if 0 ≤ x3 then (if (bt x0 x3) = 47 then (some false) else (if (bt x0 x3) = 0 then (some false) else (hogsheadref1_Part.l0 k x0 (wrap64 (x3 + 1))))) else (none)) else (if (x0.size : Int) ≥ 1 then (if (x0.size : Int) ≤ 60 then (if x0.toList = ([46] : List UInt8) then (some false) else (if x0.toList = ([46, 46] : List UInt8) then (some false) else (if (x0.size : Int) ≥ 4 then (if 0 ≤ 4 then (if 4 ≤ (x0.size : Int) then (some (!((x0.extract 0 4).toList == ([46, 119, 104, 46] : List UInt8)))) else (none)) else (none)) else (some (!false))))) else (some false)) else (some false))
def hogsheadref1_Part.f (k : Nat) (a0 : ByteArray) : Option (Bool) := hogsheadref1_Part.l0 k a0 0
set_option maxHeartbeats 8000000 in
set_option maxRecDepth 100000 in
theorem hogsheadref1_Part.calls (k : Nat) (a0 : ByteArray) (r : Bool) (w : World) (h : hogsheadref1_Part.f k a0 = some r) :
  Calls Tryz.prog 106 #[.string a0] w fun e w' => e = .returned (.bool r) ∧ Drawn0 w w' := by
 have H : (hogsheadref1_Part.l0 k a0 0) = some r := h
 clear h
 have H' := Aside0.mk H
 clear H
 go_enter Tryz.func106, Tryz.ntmps106
 go_wp2
 go_loopg [3] k (fun kq v3 w' => ∃ (x3_1 : Int), v3 = .int .i64 x3_1 ∧ Aside0 (hogsheadref1_Part.l0 kq a0 x3_1 = some r) ∧ Aside0 (kq ≤ k) ∧ Drawn0 w w')
 case atStart => exact ⟨(0), (by first | rfl | (simp; done) | (simp [*]; done) | exact congrArg Value.bool (nil_ne _) | exact congrArg Value.bool (nil_eq _) | exact congrArg Value.bool (nil_ne' _)), H', ⟨Nat.le_refl _⟩, by repeat (first | exact Drawn0.refl _ | apply Drawn0.step)⟩
 case round =>
  clear H'
  try clear c1
  obtain ⟨x3_1, rfl, HA, HK1, ⟨m1, rfl⟩⟩ := hrel
  cases gk with
  | zero => exact absurd HA.out (by simp [hogsheadref1_Part.l0])
  | succ k1 =>
   have H := HA.out
   clear HA
   simp only [hogsheadref1_Part.l0] at H
   by_cases c2 : x3_1 < (a0.size : Int)
   ·rw [if_pos c2] at H
    have c2b0 : decide (x3_1 < (a0.size : Int)) = true := decide_eq_true c2
    clear c2
    by_cases c3 : 0 ≤ x3_1
    ·rw [if_pos c3] at H
     have c3b0 : decide (0 ≤ x3_1) = true := decide_eq_true c3
     clear c3
     by_cases c5 : (bt a0 x3_1) = 47
     ·rw [if_pos c5] at H
      have c5b0 : ((bt a0 x3_1) == 47) = true := beq_iff_eq.mpr c5
      have c5b1 : ((bt a0 x3_1) != 47) = false := bne_eq_false_iff_eq.mpr c5
      clear c5
      obtain rfl := Option.some.inj H
      have p4 : 0 ≤ (x3_1 : Int) := of_decide_eq_true (by first | (with_reducible assumption) | assumption)
      have q4 : x3_1 < (a0.size : Int) := of_decide_eq_true (by first | (with_reducible assumption) | assumption)
      have hx4 := bt_at a0 x3_1
      replace p4 := eq_true p4
      replace q4 := eq_true q4
      go_wp2
      go_ret
      exact ⟨by first | rfl | (simp; done) | (simp [*]; done), by repeat (first | exact Drawn0.refl _ | apply Drawn0.step)⟩
     ·rw [if_neg c5] at H
      have c5b0 : ((bt a0 x3_1) == 47) = false := beq_eq_false_iff_ne.mpr c5
      have c5b1 : ((bt a0 x3_1) != 47) = true := bne_iff_ne.mpr c5
      by_cases c7 : (bt a0 x3_1) = 0
      ·rw [if_pos c7] at H
       have c7b0 : ((bt a0 x3_1) == 0) = true := beq_iff_eq.mpr c7
       have c7b1 : ((bt a0 x3_1) != 0) = false := bne_eq_false_iff_eq.mpr c7
       clear c7
       obtain rfl := Option.some.inj H
       have p4 : 0 ≤ (x3_1 : Int) := of_decide_eq_true (by first | (with_reducible assumption) | assumption)
       have q4 : x3_1 < (a0.size : Int) := of_decide_eq_true (by first | (with_reducible assumption) | assumption)
       have hx4 := bt_at a0 x3_1
       replace p4 := eq_true p4
       replace q4 := eq_true q4
       have p6 : 0 ≤ (x3_1 : Int) := of_decide_eq_true (by first | (with_reducible assumption) | assumption)
       have q6 : x3_1 < (a0.size : Int) := of_decide_eq_true (by first | (with_reducible assumption) | assumption)
       have hx6 := bt_at a0 x3_1
       replace p6 := eq_true p6
       replace q6 := eq_true q6
       go_wp2
       go_ret
       exact ⟨by first | rfl | (simp; done) | (simp [*]; done), by repeat (first | exact Drawn0.refl _ | apply Drawn0.step)⟩
      ·rw [if_neg c7] at H
       have c7b0 : ((bt a0 x3_1) == 0) = false := beq_eq_false_iff_ne.mpr c7
       have c7b1 : ((bt a0 x3_1) != 0) = true := bne_iff_ne.mpr c7
       have H' := Aside0.mk H
       clear H
       have p4 : 0 ≤ (x3_1 : Int) := of_decide_eq_true (by first | (with_reducible assumption) | assumption)
       have q4 : x3_1 < (a0.size : Int) := of_decide_eq_true (by first | (with_reducible assumption) | assumption)
       have hx4 := bt_at a0 x3_1
       replace p4 := eq_true p4
       replace q4 := eq_true q4
       have p6 : 0 ≤ (x3_1 : Int) := of_decide_eq_true (by first | (with_reducible assumption) | assumption)
       have q6 : x3_1 < (a0.size : Int) := of_decide_eq_true (by first | (with_reducible assumption) | assumption)
       have hx6 := bt_at a0 x3_1
       replace p6 := eq_true p6
       replace q6 := eq_true q6
       go_wp2
       go_roundg k1
       case measure => have := HK1.out; omega
       case rel => exact ⟨(wrap64 (x3_1 + 1)), (by first | rfl | (simp; done) | (simp [*]; done) | exact congrArg Value.bool (nil_ne _) | exact congrArg Value.bool (nil_eq _) | exact congrArg Value.bool (nil_ne' _)), H', ⟨by have := HK1.out; omega⟩, by repeat (first | exact Drawn0.refl _ | apply Drawn0.step)⟩
    ·rw [if_neg c3] at H
     exact absurd H (by simp)
   ·rw [if_neg c2] at H
    have c2b0 : decide (x3_1 < (a0.size : Int)) = false := decide_eq_false c2
    clear c2
    by_cases c8 : (a0.size : Int) ≥ 1
    ·rw [if_pos c8] at H
     have c8b0 : decide (1 ≤ (a0.size : Int)) = true := decide_eq_true c8
     have c8b1 : decide (1 ≤ a0.size) = true := decide_eq_true (by omega)
     clear c8
     by_cases c9 : (a0.size : Int) ≤ 60
     ·rw [if_pos c9] at H
      have c9b0 : decide ((a0.size : Int) ≤ 60) = true := decide_eq_true c9
      have c9b1 : decide (a0.size ≤ 60) = true := decide_eq_true (by omega)
      clear c9
      by_cases c10 : a0.toList = ([46] : List UInt8)
      ·rw [if_pos c10] at H
       have c10b0 : (a0.toList == ([46] : List UInt8)) = true := beq_iff_eq.mpr c10
       have c10b1 : (a0.toList != ([46] : List UInt8)) = false := bne_eq_false_iff_eq.mpr c10
       clear c10
       obtain rfl := Option.some.inj H
       go_wp2
       go_ret
       exact ⟨by first | rfl | (simp; done) | (simp [*]; done), by repeat (first | exact Drawn0.refl _ | apply Drawn0.step)⟩
      ·rw [if_neg c10] at H
       have c10b0 : (a0.toList == ([46] : List UInt8)) = false := beq_eq_false_iff_ne.mpr c10
       have c10b1 : (a0.toList != ([46] : List UInt8)) = true := bne_iff_ne.mpr c10
       by_cases c11 : a0.toList = ([46, 46] : List UInt8)
       ·rw [if_pos c11] at H
        have c11b0 : (a0.toList == ([46, 46] : List UInt8)) = true := beq_iff_eq.mpr c11
        have c11b1 : (a0.toList != ([46, 46] : List UInt8)) = false := bne_eq_false_iff_eq.mpr c11
        clear c11
        obtain rfl := Option.some.inj H
        go_wp2
        go_ret
        exact ⟨by first | rfl | (simp; done) | (simp [*]; done), by repeat (first | exact Drawn0.refl _ | apply Drawn0.step)⟩
       ·rw [if_neg c11] at H
        have c11b0 : (a0.toList == ([46, 46] : List UInt8)) = false := beq_eq_false_iff_ne.mpr c11
        have c11b1 : (a0.toList != ([46, 46] : List UInt8)) = true := bne_iff_ne.mpr c11
        by_cases c12 : (a0.size : Int) ≥ 4
        ·rw [if_pos c12] at H
         have c12b0 : decide (4 ≤ (a0.size : Int)) = true := decide_eq_true c12
         have c12b1 : decide (4 ≤ a0.size) = true := decide_eq_true (by omega)
         clear c12
         by_cases c13 : 0 ≤ 4
         ·rw [if_pos c13] at H
          have c13b0 := eq_true c13
          have c13b1 : decide (0 ≤ 4) = true := decide_eq_true c13
          clear c13
          by_cases c14 : 4 ≤ (a0.size : Int)
          ·rw [if_pos c14] at H
           have c14b0 := eq_true c14
           have c14b1 : decide (4 ≤ (a0.size : Int)) = true := decide_eq_true c14
           clear c14
           obtain rfl := Option.some.inj H
           go_wp2
           go_ret
           exact ⟨by first | rfl | (simp; done) | (simp [*]; done), by repeat (first | exact Drawn0.refl _ | apply Drawn0.step)⟩
          ·rw [if_neg c14] at H
           exact absurd H (by simp)
         ·rw [if_neg c13] at H
          exact absurd H (by simp)
        ·rw [if_neg c12] at H
         have c12b0 : decide (4 ≤ (a0.size : Int)) = false := decide_eq_false c12
         have c12b1 : decide (4 ≤ a0.size) = false := decide_eq_false (by omega)
         clear c12
         obtain rfl := Option.some.inj H
         go_wp2
         go_ret
         exact ⟨by first | rfl | (simp; done) | (simp [*]; done), by repeat (first | exact Drawn0.refl _ | apply Drawn0.step)⟩
     ·rw [if_neg c9] at H
      have c9b0 : decide ((a0.size : Int) ≤ 60) = false := decide_eq_false c9
      have c9b1 : decide (a0.size ≤ 60) = false := decide_eq_false (by omega)
      clear c9
      obtain rfl := Option.some.inj H
      go_wp2
      go_ret
      exact ⟨by first | rfl | (simp; done) | (simp [*]; done), by repeat (first | exact Drawn0.refl _ | apply Drawn0.step)⟩
    ·rw [if_neg c8] at H
     have c8b0 : decide (1 ≤ (a0.size : Int)) = false := decide_eq_false c8
     have c8b1 : decide (1 ≤ a0.size) = false := decide_eq_false (by omega)
     clear c8
     obtain rfl := Option.some.inj H
     go_wp2
     go_ret
     exact ⟨by first | rfl | (simp; done) | (simp [*]; done), by repeat (first | exact Drawn0.refl _ | apply Drawn0.step)⟩
end Go.Proofs.YtdijnmcfpbceaaaGreatDoor.P

namespace Go.Proofs.YtdijnmcfpbceaaaGreatDoor.P
open Go.Proofs.YtdijnmcfpbceaaaGreatDoor.X
open Go.RowKit Go.Proofs.YtdijnmcfpbceaaaGreatDoorW.PrintWords Go.Proofs.YtdijnmcfpbceaaaGreatDoorW.PrintLast Go.Proofs.YtdijnmcfpbceaaaGreatDoorW.PrintMore
attribute [local go_sem] min2_int min_two
set_option linter.unusedVariables false
set_option linter.unusedSimpArgs false
def hogsheadref1_May.l0 : Nat → List ByteArray → Int → Option (Bool)
 | 0, _, _ => none
 | k + 1, x3, x4 => if x4 < (x3.length : Int) then (if 0 ≤ x4 then ((hogsheadref1_Part.f k (rdOf ByteArray.empty x3 x4)).bind fun t125 => (if t125 = true then (hogsheadref1_May.l0 k x3 (wrap64 (x4 + 1))) else (some false))) else (none)) else (some (decide ((x3.length : Int) ≤ 10)))
def hogsheadref1_May.f (k : Nat) (a0 : ByteArray) : Option (Bool) := if a0.toList = ([] : List UInt8) then (some true) else (if (a0.size : Int) > 200 then (some false) else ((hogsheadref1_Cut.f k a0).bind fun t121 => (hogsheadref1_May.l0 k t121 0)))
set_option maxHeartbeats 8000000 in
set_option maxRecDepth 100000 in
theorem hogsheadref1_May.calls (k : Nat) (a0 : ByteArray) (r : Bool) (w : World) (h : hogsheadref1_May.f k a0 = some r) :
  Calls Tryz.prog 80 #[.string a0] w fun e w' => e = .returned (.bool r) ∧ Below w.heap.size w w' := by
 have HB := Aside0.mk (Below.refl w.heap.size w)
 have H : (if a0.toList = ([] : List UInt8) then (some true) else (if (a0.size : Int) > 200 then (some false) else ((hogsheadref1_Cut.f k a0).bind fun t121 => (hogsheadref1_May.l0 k t121 0)))) = some r := h
 clear h
 by_cases c2 : a0.toList = ([] : List UInt8)
 ·rw [if_pos c2] at H
  have c2b0 : (a0.toList == ([] : List UInt8)) = true := beq_iff_eq.mpr c2
  have c2b1 : (a0.toList != ([] : List UInt8)) = false := bne_eq_false_iff_eq.mpr c2
  clear c2
  obtain rfl := Option.some.inj H
  go_enter Tryz.func80, Tryz.ntmps80
  go_wp2
  go_ret
  exact ⟨by first | rfl | (simp [errW_none, errW_some] <;> rfl) | (simp [*, errW_none, errW_some] <;> rfl), by repeat (first | (with_reducible first | exact HB.out | apply below_alloc | apply pw_below_drewN | apply below_drew1) | exact HB.out)⟩
 ·rw [if_neg c2] at H
  have c2b0 : (a0.toList == ([] : List UInt8)) = false := beq_eq_false_iff_ne.mpr c2
  have c2b1 : (a0.toList != ([] : List UInt8)) = true := bne_iff_ne.mpr c2
  by_cases c3 : (a0.size : Int) > 200
  ·rw [if_pos c3] at H
   have c3b0 : decide (200 < (a0.size : Int)) = true := decide_eq_true c3
   have c3b1 : decide (200 < a0.size) = true := decide_eq_true (by omega)
   clear c3
   obtain rfl := Option.some.inj H
   go_enter Tryz.func80, Tryz.ntmps80
   go_wp2
   go_ret
   exact ⟨by first | rfl | (simp [errW_none, errW_some] <;> rfl) | (simp [*, errW_none, errW_some] <;> rfl), by repeat (first | (with_reducible first | exact HB.out | apply below_alloc | apply pw_below_drewN | apply below_drew1) | exact HB.out)⟩
  ·rw [if_neg c3] at H
   have c3b0 : decide (200 < (a0.size : Int)) = false := decide_eq_false c3
   have c3b1 : decide (200 < a0.size) = false := decide_eq_false (by omega)
   clear c3
   replace H := Option.bind_eq_some_iff.mp H
   obtain ⟨t121, A40, H⟩ := H
   replace H : (hogsheadref1_May.l0 k t121 0) = some r := H
   have A4 := Aside0.mk A40
   clear A40
   have H' := Aside0.mk H
   clear H
   go_enter Tryz.func80, Tryz.ntmps80
   go_wp2_with (first | ((with_reducible refine gate_callee (f := 105) rfl ?_); refine goesL_ (some 11) rfl rfl Tryz.func105 (by kernel_rfl) rfl #[.string a0] rfl (by (try simp only [List.map_toArray, List.map_cons, List.map_nil]); first | done | rfl | (simp only [List.length_drop, List.length_take]; rfl)) ?_; (with_reducible refine (hogsheadref1_Cut.calls k a0 t121 _ A4.out).mono ?_); rintro e w5 ⟨v122, rfl, ho0, hb⟩; refine ⟨_, rfl, ?_⟩; have n0_ := Aside0.mk (Kd.R_lower ho0 (below_size (by repeat (first | (with_reducible first | exact HB.out | apply below_alloc | apply pw_below_drewN | apply below_drew1) | exact HB.out)))); have n1_ := Aside0.mk (below_step (by repeat (first | (with_reducible first | exact HB.out | apply below_alloc | apply pw_below_drewN | apply below_drew1) | exact HB.out)) hb); clear HB; have HO123 := n0_; have HB := n1_; clear n0_ n1_; (try clear hb); (try clear hb2); (try clear hk); (try clear hi); (try clear ho0)))
   go_loopg [4] k (fun kq v4 w' => ∃ (x4_1 : Int), v4 = .int .i64 x4_1 ∧ Aside0 (hogsheadref1_May.l0 kq t121 x4_1 = some r) ∧ Aside0 (kq ≤ k) ∧ Aside0 (Kd.R Kd.string 9 w' w.heap.size (fun _ => True) v122 t121) ∧ Aside0 (Below w.heap.size w w'))
   case atStart => exact ⟨(0), (by first | rfl | (simp; done) | (simp [*]; done) | exact congrArg Value.bool (nil_ne _) | exact congrArg Value.bool (nil_eq _) | exact congrArg Value.bool (nil_ne' _)), H', ⟨Nat.le_refl _⟩, ⟨by (with_reducible repeat (first | apply Kd.R_alloc | apply Kd.R_drewN | apply Kd.R_drew)); exact HO123.out⟩, ⟨by repeat (first | (with_reducible first | exact HB.out | apply below_alloc | apply pw_below_drewN | apply below_drew1) | exact HB.out)⟩⟩
   case round =>
    clear H'
    try clear c1
    try clear c2
    try clear c2b0
    try clear c2b1
    try clear p2
    try clear c3
    try clear c3b0
    try clear c3b1
    obtain ⟨x4_1, rfl, HA, HK1, HO_3, HB⟩ := hrel
    cases gk with
    | zero => exact absurd HA.out (by simp [hogsheadref1_May.l0])
    | succ k1 =>
     have H := HA.out
     clear HA
     simp only [hogsheadref1_May.l0] at H
     by_cases c6 : x4_1 < (t121.length : Int)
     ·rw [if_pos c6] at H
      have c6b0 : decide (x4_1 < (t121.length : Int)) = true := decide_eq_true c6
      clear c6
      by_cases c7 : 0 ≤ x4_1
      ·rw [if_pos c7] at H
       have c7b0 : decide (0 ≤ x4_1) = true := decide_eq_true c7
       clear c7
       replace H := Option.bind_eq_some_iff.mp H
       obtain ⟨t125, A80, H⟩ := H
       replace H : (if t125 = true then (hogsheadref1_May.l0 k1 t121 (wrap64 (x4_1 + 1))) else (some false)) = some r := H
       have A8 := Aside0.mk A80
       clear A80
       by_cases c9 : t125 = true
       ·subst c9
        have H1 : (hogsheadref1_May.l0 k1 t121 (wrap64 (x4_1 + 1))) = some r := by rw [if_pos rfl] at H; exact H
        clear H
        have H := H1
        clear H1
        have H' := Aside0.mk H
        clear H
        obtain ⟨Ao10, co10, eo10⟩ := Kd.R_slice HO_3.out
        subst eo10
        have p124 : 0 ≤ (x4_1 : Int) := of_decide_eq_true (by first | (with_reducible assumption) | assumption)
        have q124 : x4_1 < (t121.length : Int) := of_decide_eq_true (by first | (with_reducible assumption) | assumption)
        obtain ⟨ad124, e124, hx124_0⟩ := Kd.at_string (Kd.R_reads' HO_3.out).2.2 x4_1 p124 q124
        cases e124
        replace p124 := eq_true p124
        replace q124 := eq_true q124
        go_wp2_with (first | ((with_reducible refine gate_callee (f := 106) rfl ?_); refine goesL_ (some 22) rfl rfl Tryz.func106 (by kernel_rfl) rfl #[.string (rdOf ByteArray.empty t121 x4_1)] rfl (by (try simp only [List.map_toArray, List.map_cons, List.map_nil]); first | done | rfl | (simp only [List.length_drop, List.length_take]; rfl)) ?_; (with_reducible refine (hogsheadref1_Part.calls k1 (rdOf ByteArray.empty t121 x4_1) true _ A8.out).mono ?_); rintro e w' ⟨rfl, ⟨nd, rfl⟩⟩; refine ⟨_, rfl, ?_⟩))
        go_roundg k1
        case measure => have := HK1.out; omega
        case rel => exact ⟨(wrap64 (x4_1 + 1)), (by first | rfl | (simp; done) | (simp [*]; done) | exact congrArg Value.bool (nil_ne _) | exact congrArg Value.bool (nil_eq _) | exact congrArg Value.bool (nil_ne' _)), H', ⟨by have := HK1.out; omega⟩, ⟨by (with_reducible repeat (first | apply Kd.R_alloc | apply Kd.R_drewN | apply Kd.R_drew)); exact HO_3.out⟩, ⟨by repeat (first | (with_reducible first | exact HB.out | apply below_alloc | apply pw_below_drewN | apply below_drew1) | exact HB.out)⟩⟩
       ·replace c9 := Bool.eq_false_iff.mpr c9
        subst c9
        have H1 : (some false) = some r := by rw [if_neg (show ¬ (false = true) by decide)] at H; exact H
        clear H
        have H := H1
        clear H1
        obtain rfl := Option.some.inj H
        obtain ⟨Ao11, co11, eo11⟩ := Kd.R_slice HO_3.out
        subst eo11
        have p124 : 0 ≤ (x4_1 : Int) := of_decide_eq_true (by first | (with_reducible assumption) | assumption)
        have q124 : x4_1 < (t121.length : Int) := of_decide_eq_true (by first | (with_reducible assumption) | assumption)
        obtain ⟨ad124, e124, hx124_0⟩ := Kd.at_string (Kd.R_reads' HO_3.out).2.2 x4_1 p124 q124
        cases e124
        replace p124 := eq_true p124
        replace q124 := eq_true q124
        go_wp2_with (first | ((with_reducible refine gate_callee (f := 106) rfl ?_); refine goesL_ (some 22) rfl rfl Tryz.func106 (by kernel_rfl) rfl #[.string (rdOf ByteArray.empty t121 x4_1)] rfl (by (try simp only [List.map_toArray, List.map_cons, List.map_nil]); first | done | rfl | (simp only [List.length_drop, List.length_take]; rfl)) ?_; (with_reducible refine (hogsheadref1_Part.calls k1 (rdOf ByteArray.empty t121 x4_1) false _ A8.out).mono ?_); rintro e w' ⟨rfl, ⟨nd, rfl⟩⟩; refine ⟨_, rfl, ?_⟩))
        go_ret
        exact ⟨by first | rfl | (simp [errW_none, errW_some] <;> rfl) | (simp [*, errW_none, errW_some] <;> rfl), by repeat (first | (with_reducible first | exact HB.out | apply below_alloc | apply pw_below_drewN | apply below_drew1) | exact HB.out)⟩
      ·rw [if_neg c7] at H
       exact absurd H (by simp)
     ·rw [if_neg c6] at H
      have c6b0 : decide (x4_1 < (t121.length : Int)) = false := decide_eq_false c6
      clear c6
      obtain rfl := Option.some.inj H
      obtain ⟨Ao12, co12, eo12⟩ := Kd.R_slice HO_3.out
      subst eo12
      go_wp2
      go_ret
      exact ⟨by first | rfl | (simp [errW_none, errW_some] <;> rfl) | (simp [*, errW_none, errW_some] <;> rfl), by repeat (first | (with_reducible first | exact HB.out | apply below_alloc | apply pw_below_drewN | apply below_drew1) | exact HB.out)⟩
end Go.Proofs.YtdijnmcfpbceaaaGreatDoor.P

namespace Go.Proofs.YtdijnmcfpbceaaaGreatDoor.X
open Go.RowKit Go.Proofs.YtdijnmcfpbceaaaGreatDoorW.PrintWords Go.Proofs.YtdijnmcfpbceaaaGreatDoorW.PrintLast Go.Proofs.YtdijnmcfpbceaaaGreatDoorW.PrintMore Go.Proofs.YtdijnmcfpbceaaaGreatDoor.P
set_option linter.unusedVariables false
set_option linter.unusedSimpArgs false
def endB (s : List UInt8) : Bool := decide (s ≠ []) && decide (s.length ≤ 60) && decide (s ≠ [46]) && decide (s ≠ [46, 46]) && !([46, 119, 104, 46] : List UInt8).isPrefixOf s
theorem part_end (s : List UInt8) : partB s = (decide ((47 : UInt8) ∉ s) && (decide ((0 : UInt8) ∉ s) && endB s)) := by
  unfold partB endB
  generalize decide (s ≠ []) = a
  generalize decide (s.length ≤ 60) = b
  generalize decide ((47 : UInt8) ∉ s) = c
  generalize decide ((0 : UInt8) ∉ s) = d
  generalize decide (s ≠ [46]) = e
  generalize decide (s ≠ [46, 46]) = f
  generalize (([46, 119, 104, 46] : List UInt8).isPrefixOf s) = g
  revert a b c d e f g
  decide
theorem prefix_take (p s : List UInt8) : p.isPrefixOf s = decide (s.take p.length = p) := by
  by_cases h : p <+: s
  · obtain ⟨t, rfl⟩ := h
    rw [List.take_left, decide_eq_true rfl]
    simp
  · have h1 : p.isPrefixOf s = false := by
      cases hb : p.isPrefixOf s with
      | false => rfl
      | true => exact absurd (List.isPrefixOf_iff_prefix.1 hb) h
    rw [h1, eq_comm, decide_eq_false_iff_not]
    intro e
    refine h ⟨s.drop p.length, ?_⟩
    have := List.take_append_drop p.length s
    rw [e] at this
    exact this
theorem part_tail (k : Nat) (s : ByteArray) (i : Int) (h : ¬ i < (s.size : Int)) : hogsheadref1_Part.l0 (k + 1) s i = some (endB s.data.toList) := by
  simp only [hogsheadref1_Part.l0]
  rw [if_neg h]
  unfold endB
  rw [prefix_take]
  have hl : s.data.toList.length = s.size := data_length s
  have hx : (s.extract 0 4).toList = s.data.toList.take 4 := by
    rw [ByteArray.toList_eq, ByteArray.data_extract, Array.toList_extract]
    simp [List.extract]
  rw [hx, ByteArray.toList_eq]
  generalize s.data.toList = l at *
  by_cases h1 : (s.size : Int) ≥ 1
  · rw [if_pos h1, decide_eq_true (show l ≠ [] from fun e => by rw [e] at hl; simp at hl; omega), Bool.true_and]
    by_cases h2 : (s.size : Int) ≤ 60
    · rw [if_pos h2, decide_eq_true (show l.length ≤ 60 by omega), Bool.true_and]
      by_cases h3 : l = [46]
      · rw [if_pos h3, decide_eq_false (fun x => x h3)]
        rfl
      · rw [if_neg h3, decide_eq_true h3, Bool.true_and]
        by_cases h4 : l = [46, 46]
        · rw [if_pos h4, decide_eq_false (fun x => x h4)]
          rfl
        · rw [if_neg h4, decide_eq_true h4, Bool.true_and]
          by_cases h5 : (s.size : Int) ≥ 4
          · rw [if_pos h5, if_pos (by decide), if_pos (by omega)]
            congr 2
            rw [Bool.eq_iff_iff, beq_iff_eq, decide_eq_true_eq]
            rfl
          · rw [if_neg h5]
            congr 2
            symm
            rw [decide_eq_false_iff_not]
            intro e
            have := congrArg List.length e
            simp only [List.length_take, List.length_cons, List.length_nil] at this
            omega
    · rw [if_neg h2, decide_eq_false (show ¬ l.length ≤ 60 by omega)]
      rfl
  · rw [if_neg h1, decide_eq_false (show ¬ l ≠ [] from fun x => x (List.eq_nil_of_length_eq_zero (by omega)))]
    rfl
theorem refPart_l0 (s : ByteArray) (hn : s.size ≤ 9223372036854775807) : ∀ (d i : Nat), s.size - i = d → i ≤ s.size → Ev (fun k => hogsheadref1_Part.l0 k s (i : Int)) (decide ((47 : UInt8) ∉ s.data.toList.drop i) && (decide ((0 : UInt8) ∉ s.data.toList.drop i) && endB s.data.toList)) := by
  intro d
  induction d with
  | zero =>
    intro i hd hi
    refine ⟨1, fun k hk => ?_⟩
    obtain ⟨k, rfl⟩ : ∃ m, k = m + 1 := ⟨k - 1, by omega⟩
    show hogsheadref1_Part.l0 (k + 1) s (i : Int) = _
    rw [part_tail k s i (by omega), List.drop_eq_nil_of_le (by rw [data_length]; omega)]
    simp
  | succ d ih =>
    intro i hd hi
    have hlt : i < s.size := by omega
    obtain ⟨K, hK⟩ := ih (i + 1) (by omega) (by omega)
    refine ⟨K + 1, fun k hk => ?_⟩
    obtain ⟨k, rfl⟩ : ∃ m, k = m + 1 := ⟨k - 1, by omega⟩
    have hK := hK k (by omega)
    simp only at hK
    simp only [hogsheadref1_Part.l0]
    rw [if_pos (by omega), if_pos (by omega), bt_nat s i hlt, drop_data s i hlt]
    generalize s.data.toList[i]'(by rw [data_length]; exact hlt) = c at *
    by_cases h1 : c = 47
    · subst h1
      rw [if_pos (by rfl)]
      simp
    · have h1n : ¬ ((c.toNat : Nat) : Int) = 47 := fun e => h1 (UInt8.toNat_inj.1 (by show c.toNat = 47; omega))
      rw [if_neg h1n]
      by_cases h2 : c = 0
      · subst h2
        rw [if_pos (by rfl)]
        simp
      · have h2n : ¬ ((c.toNat : Nat) : Int) = 0 := fun e => h2 (UInt8.toNat_inj.1 (by show c.toNat = 0; omega))
        rw [if_neg h2n, wrap_i i s.size hlt hn, hK]
        have e1 : decide ((47 : UInt8) ∉ c :: s.data.toList.drop (i + 1)) = decide ((47 : UInt8) ∉ s.data.toList.drop (i + 1)) := by
          rw [decide_eq_decide, List.mem_cons]
          exact ⟨fun h x => h (.inr x), fun h x => x.elim (fun e => h1 e.symm) h⟩
        have e2 : decide ((0 : UInt8) ∉ c :: s.data.toList.drop (i + 1)) = decide ((0 : UInt8) ∉ s.data.toList.drop (i + 1)) := by
          rw [decide_eq_decide, List.mem_cons]
          exact ⟨fun h x => h (.inr x), fun h x => x.elim (fun e => h2 e.symm) h⟩
        rw [e1, e2]
theorem refPart_eq (s : ByteArray) (hn : s.size ≤ 9223372036854775807) : Ev (fun k => hogsheadref1_Part.f k s) (partB s.data.toList) := by
  obtain ⟨K, hK⟩ := refPart_l0 s hn s.size 0 (by omega) (by omega)
  refine ⟨K, fun k hk => ?_⟩
  have := hK k hk
  rw [part_end]
  exact this
end Go.Proofs.YtdijnmcfpbceaaaGreatDoor.X

namespace Go.Proofs.YtdijnmcfpbceaaaGreatDoor.X
open Go.RowKit Go.Proofs.YtdijnmcfpbceaaaGreatDoorW.PrintWords Go.Proofs.YtdijnmcfpbceaaaGreatDoorW.PrintLast Go.Proofs.YtdijnmcfpbceaaaGreatDoorW.PrintMore Go.Proofs.YtdijnmcfpbceaaaGreatDoor.P
set_option linter.unusedVariables false
set_option linter.unusedSimpArgs false
def baS (l : List UInt8) : ByteArray := ⟨l.toArray⟩
theorem ba_extract (s : ByteArray) (a b : Nat) (h : a ≤ b) : s.extract a b = baS ((s.data.toList.drop a).take (b - a)) := by
  have e : ∀ x y : ByteArray, x.data.toList = y.data.toList → x = y := fun x y h => by
    cases x
    cases y
    congr 1
    exact Array.toList_inj.1 h
  apply e
  rw [ByteArray.data_extract, Array.toList_extract]
  rfl
theorem cut_l0 (s : ByteArray) (hn : s.size ≤ 100000) : ∀ (d i a : Nat) (x : List ByteArray), s.size - i = d → i ≤ s.size → a ≤ i → x.length + d ≤ 200000 → (47 : UInt8) ∉ (s.data.toList.drop a).take (i - a) →
    Ev (fun k => hogsheadref1_Cut.l0 k s x (a : Int) (i : Int)) (x ++ (cutL 47 (s.data.toList.drop a)).map baS) := by
  intro d
  induction d with
  | zero =>
    intro i a x hd hi ha hx hno
    refine ⟨2, fun k hk => ?_⟩
    obtain ⟨k, rfl⟩ : ∃ m, k = m + 2 := ⟨k - 2, by omega⟩
    have hl : s.data.toList.length = s.size := data_length s
    simp only [hogsheadref1_Cut.l0]
    rw [if_pos (by omega), if_pos (by omega), if_pos (by omega), if_pos (by omega), if_pos (by omega), wrap_i i (i + 1) (by omega) (by omega), if_neg (by omega), Int.toNat_natCast, Int.toNat_natCast, ba_extract s a i ha]
    have hall : (s.data.toList.drop a).take (i - a) = s.data.toList.drop a := List.take_of_length_le (by rw [List.length_drop]; omega)
    rw [hall] at hno ⊢
    rw [cutL_none 47 _ hno]
    rfl
  | succ d ih =>
    intro i a x hd hi ha hx hno
    have hlt : i < s.size := by omega
    have hl : s.data.toList.length = s.size := data_length s
    have hsplit : s.data.toList.drop a = (s.data.toList.drop a).take (i - a) ++ s.data.toList.drop i := by
      conv => lhs; rw [← List.take_append_drop (i - a) (s.data.toList.drop a)]
      rw [List.drop_drop, show a + (i - a) = i from by omega]
    have hcons := drop_data s i hlt
    by_cases hc : s.data.toList[i]'(by rw [hl]; exact hlt) = 47
    · obtain ⟨K, hK⟩ := ih (i + 1) (i + 1) (x ++ [baS ((s.data.toList.drop a).take (i - a))]) (by omega) (by omega) (Nat.le_refl _) (by rw [List.length_append, List.length_singleton]; omega) (by simp)
      refine ⟨K + 1, fun k hk => ?_⟩
      obtain ⟨k, rfl⟩ : ∃ m, k = m + 1 := ⟨k - 1, by omega⟩
      have hK := hK k (by omega)
      simp only at hK
      simp only [hogsheadref1_Cut.l0]
      rw [if_pos (by omega), if_neg (by omega), if_pos (by omega), if_pos (by omega), bt_nat s i hlt, hc, if_pos (by rfl), if_pos (by omega), if_pos (by omega), if_pos (by omega), Int.toNat_natCast, Int.toNat_natCast, ba_extract s a i ha, wrap_i i (i + 1) (by omega) (by omega), hK]
      have ecut : cutL 47 (s.data.toList.drop a) = (s.data.toList.drop a).take (i - a) :: cutL 47 (s.data.toList.drop (i + 1)) := by
        conv => lhs; rw [hsplit, hcons, hc]
        exact cutL_app 47 _ _ hno
      rw [ecut]
      simp
    · obtain ⟨K, hK⟩ := ih (i + 1) a x (by omega) (by omega) (by omega) (by omega) (by
        have e : (s.data.toList.drop a).take (i + 1 - a) = (s.data.toList.drop a).take (i - a) ++ [s.data.toList[i]'(by rw [hl]; exact hlt)] := by
          rw [show i + 1 - a = (i - a) + 1 from by omega, List.take_succ_eq_append_getElem (by rw [List.length_drop]; omega), List.getElem_drop]
          congr 3
          omega
        rw [e, List.mem_append, List.mem_singleton]
        exact fun h => h.elim hno fun h => hc h.symm)
      refine ⟨K + 1, fun k hk => ?_⟩
      obtain ⟨k, rfl⟩ : ∃ m, k = m + 1 := ⟨k - 1, by omega⟩
      have hK := hK k (by omega)
      simp only at hK
      simp only [hogsheadref1_Cut.l0]
      have hcn : ¬ (((s.data.toList[i]'(by rw [hl]; exact hlt)).toNat : Nat) : Int) = 47 := fun e => hc (UInt8.toNat_inj.1 (by show _ = 47; omega))
      rw [if_pos (by omega), if_neg (by omega), if_pos (by omega), if_pos (by omega), bt_nat s i hlt, if_neg hcn, wrap_i i (i + 1) (by omega) (by omega), hK]
theorem refCut_eq (s : ByteArray) (hn : s.size ≤ 100000) : Ev (fun k => hogsheadref1_Cut.f k s) ((cutL 47 s.data.toList).map baS) := by
  obtain ⟨K, hK⟩ := cut_l0 s hn s.size 0 0 [] (by omega) (by omega) (Nat.le_refl _) (by simp; omega) (by simp)
  refine ⟨K, fun k hk => ?_⟩
  show hogsheadref1_Cut.l0 k s [] 0 0 = _
  simpa using hK k hk
end Go.Proofs.YtdijnmcfpbceaaaGreatDoor.X

namespace Go.Proofs.YtdijnmcfpbceaaaGreatDoor.X
open Go.RowKit Go.Proofs.YtdijnmcfpbceaaaGreatDoorW.PrintWords Go.Proofs.YtdijnmcfpbceaaaGreatDoorW.PrintLast Go.Proofs.YtdijnmcfpbceaaaGreatDoorW.PrintMore Go.Proofs.YtdijnmcfpbceaaaGreatDoor.P
set_option linter.unusedVariables false
set_option linter.unusedSimpArgs false
theorem rdOf_get (l : List ByteArray) (i : Nat) (h : i < l.length) : rdOf ByteArray.empty l (i : Int) = l[i] := by
  simp [rdOf, List.getD_eq_getElem?_getD, h]
theorem may1_l0 (l : List ByteArray) (hn : l.length ≤ 1000000) (hs : ∀ s ∈ l, s.size ≤ 1000000) : ∀ (d i : Nat), l.length - i = d → i ≤ l.length → Ev (fun k => hogsheadref1_May.l0 k l (i : Int)) ((l.drop i).all (fun s => partB s.data.toList) && decide (l.length ≤ 10)) := by
  intro d
  induction d with
  | zero =>
    intro i hd hi
    refine ⟨1, fun k hk => ?_⟩
    obtain ⟨k, rfl⟩ : ∃ m, k = m + 1 := ⟨k - 1, by omega⟩
    simp only [hogsheadref1_May.l0]
    rw [if_neg (by omega), List.drop_eq_nil_of_le (by omega)]
    congr 1
    rw [List.all_nil, Bool.true_and, decide_eq_decide]
    omega
  | succ d ih =>
    intro i hd hi
    have hlt : i < l.length := by omega
    obtain ⟨K1, h1⟩ := refPart_eq l[i] (by have := hs l[i] (List.getElem_mem _); omega)
    obtain ⟨K2, h2⟩ := ih (i + 1) (by omega) (by omega)
    refine ⟨K1 + K2 + 1, fun k hk => ?_⟩
    obtain ⟨k, rfl⟩ : ∃ m, k = m + 1 := ⟨k - 1, by omega⟩
    have h1 := h1 k (by omega)
    have h2 := h2 k (by omega)
    simp only at h1 h2
    simp only [hogsheadref1_May.l0]
    rw [if_pos (by omega), if_pos (by omega), rdOf_get l i hlt, h1, Option.bind_some, List.drop_eq_getElem_cons hlt, List.all_cons]
    cases hp : partB l[i].data.toList with
    | true =>
      rw [if_pos rfl, wrap_i i l.length hlt (by omega), h2, Bool.true_and]
    | false =>
      rw [if_neg (by simp), Bool.false_and, Bool.false_and]
theorem ba_list (l : List UInt8) : (baS l).data.toList = l := rfl
theorem cutL_small (c : UInt8) : ∀ (l p : List UInt8), p ∈ cutL c l → p.length ≤ l.length
  | [], p, h => by
    rw [cutL, List.mem_singleton] at h
    rw [h]
    exact Nat.le_refl _
  | b :: l, p, h => by
    unfold cutL at h
    split at h
    · rcases List.mem_cons.1 h with rfl | h
      · simp
      · have := cutL_small c l p h
        rw [List.length_cons]
        omega
    · split at h
      · rename_i e
        exact absurd e (cutL_ne c l)
      · rename_i q r e
        rcases List.mem_cons.1 h with rfl | h
        · have := cutL_small c l q (by rw [e]; exact List.mem_cons_self)
          rw [List.length_cons, List.length_cons]
          omega
        · have := cutL_small c l p (by rw [e]; exact List.mem_cons_of_mem _ h)
          rw [List.length_cons]
          omega
theorem cutL_count (c : UInt8) : ∀ l : List UInt8, (cutL c l).length ≤ l.length + 1
  | [] => by simp [cutL]
  | b :: l => by
    have ih := cutL_count c l
    unfold cutL
    split
    · simp only [List.length_cons]
      omega
    · split
      · simp
      · rename_i q r e
        rw [e] at ih
        simp only [List.length_cons] at ih ⊢
        omega
theorem refPath_eq (s : ByteArray) (hn : s.size ≤ 100000) : Ev (fun k => hogsheadref1_May.f k s) (pathB s.data.toList) := by
  have hl : s.data.toList.length = s.size := data_length s
  obtain ⟨K1, h1⟩ := refCut_eq s hn
  have hc := cutL_count 47 s.data.toList
  obtain ⟨K2, h2⟩ := may1_l0 ((cutL 47 s.data.toList).map baS) (by rw [List.length_map]; omega) (fun x hx => by
    obtain ⟨p, hp, rfl⟩ := List.mem_map.1 hx
    have := cutL_small 47 _ p hp
    show (⟨p.toArray⟩ : ByteArray).size ≤ 1000000
    rw [size_mk]
    omega) _ 0 rfl (Nat.zero_le _)
  refine ⟨K1 + K2, fun k hk => ?_⟩
  have h1 := h1 k (by omega)
  have h2 := h2 k (by omega)
  simp only at h1 h2
  show hogsheadref1_May.f k s = _
  unfold hogsheadref1_May.f pathB
  rw [ByteArray.toList_eq]
  by_cases h0 : s.data.toList = []
  · rw [if_pos h0, decide_eq_true h0]
    rfl
  · rw [if_neg h0, decide_eq_false h0, Bool.false_or]
    by_cases h200 : s.size ≤ 200
    · rw [if_neg (by omega), h1, Option.bind_some, decide_eq_true (show s.data.toList.length ≤ 200 by omega), Bool.true_and]
      have h2' : hogsheadref1_May.l0 k ((cutL 47 s.data.toList).map baS) 0 = _ := h2
      rw [h2', List.drop_zero, List.all_map, List.length_map]
      rfl
    · rw [if_pos (by omega), decide_eq_false (show ¬ s.data.toList.length ≤ 200 by omega)]
      rfl
end Go.Proofs.YtdijnmcfpbceaaaGreatDoor.X

namespace Go.Proofs.YtdijnmcfpbceaaaGreatDoor.P
open Go.Proofs.YtdijnmcfpbceaaaGreatDoor.X
open Go.RowKit Go.Proofs.YtdijnmcfpbceaaaGreatDoorW.PrintWords Go.Proofs.YtdijnmcfpbceaaaGreatDoorW.PrintLast Go.Proofs.YtdijnmcfpbceaaaGreatDoorW.PrintMore
attribute [local go_sem] min2_int min_two
set_option linter.unusedVariables false
set_option linter.unusedSimpArgs false
def hogsheadref1_Split.f (k : Nat) (a0 : ByteArray) : Option (List ByteArray) := if a0.toList = ([] : List UInt8) then (some ([] : List ByteArray)) else ((hogsheadref1_May.f k a0).bind fun t126 => (if t126 = true then ((hogsheadref1_Cut.f k a0).bind fun t127 => (some t127)) else (some ([] : List ByteArray))))
set_option maxHeartbeats 8000000 in
set_option maxRecDepth 100000 in
theorem hogsheadref1_Split.calls (k : Nat) (a0 : ByteArray) (r : List ByteArray) (w : World) (h : hogsheadref1_Split.f k a0 = some r) :
  Calls Tryz.prog 81 #[.string a0] w fun e w' => ∃ v0_ : Value, e = .returned (v0_) ∧ Kd.R Kd.string 9 w' w.heap.size (fun _ => True) v0_ r ∧ Below w.heap.size w w' := by
 have HB := Aside0.mk (Below.refl w.heap.size w)
 have H : (if a0.toList = ([] : List UInt8) then (some ([] : List ByteArray)) else ((hogsheadref1_May.f k a0).bind fun t126 => (if t126 = true then ((hogsheadref1_Cut.f k a0).bind fun t127 => (some t127)) else (some ([] : List ByteArray))))) = some r := h
 clear h
 by_cases c2 : a0.toList = ([] : List UInt8)
 ·rw [if_pos c2] at H
  have c2b0 : (a0.toList == ([] : List UInt8)) = true := beq_iff_eq.mpr c2
  have c2b1 : (a0.toList != ([] : List UInt8)) = false := bne_eq_false_iff_eq.mpr c2
  clear c2
  obtain rfl := Option.some.inj H
  go_enter Tryz.func81, Tryz.ntmps81
  go_wp2
  go_ret
  exact ⟨_, by first | rfl | (simp [errW_none, errW_some] <;> rfl) | (simp [*, errW_none, errW_some] <;> rfl), by first | exact Kd.R_nil _ _ _ _ _ | exact Kd.N_nil _ _ _ _ _ | exact Kd.V_nil _ _ _ _ _ | exact Kd.Q_nil _ _ _ _ _ | exact Kd.S_nil _ _ _ _ _, by repeat (first | (with_reducible first | exact HB.out | apply below_alloc | apply pw_below_drewN | apply below_drew1) | exact HB.out)⟩
 ·rw [if_neg c2] at H
  have c2b0 : (a0.toList == ([] : List UInt8)) = false := beq_eq_false_iff_ne.mpr c2
  have c2b1 : (a0.toList != ([] : List UInt8)) = true := bne_iff_ne.mpr c2
  replace H := Option.bind_eq_some_iff.mp H
  obtain ⟨t126, A30, H⟩ := H
  replace H : (if t126 = true then ((hogsheadref1_Cut.f k a0).bind fun t127 => (some t127)) else (some ([] : List ByteArray))) = some r := H
  have A3 := Aside0.mk A30
  clear A30
  by_cases c4 : t126 = true
  ·subst c4
   have H1 : ((hogsheadref1_Cut.f k a0).bind fun t127 => (some t127)) = some r := by rw [if_pos rfl] at H; exact H
   clear H
   have H := H1
   clear H1
   replace H := Option.bind_eq_some_iff.mp H
   obtain ⟨t127, A50, H⟩ := H
   replace H : (some t127) = some r := H
   have A5 := Aside0.mk A50
   clear A50
   obtain rfl := Option.some.inj H
   go_enter Tryz.func81, Tryz.ntmps81
   go_wp2_with (first | (go_at_call 80; (with_reducible refine (hogsheadref1_May.calls k a0 true _ A3.out).mono ?_); rintro e w6 ⟨rfl, hb⟩; have n0_ := Aside0.mk (below_step (by repeat (first | (with_reducible first | exact HB.out | apply below_alloc | apply pw_below_drewN | apply below_drew1) | exact HB.out)) hb); clear HB; have HB := n0_; clear n0_; (try clear hb); (try clear hb2); (try clear hk); (try clear hi)) | ((with_reducible refine gate_callee (f := 105) rfl ?_); refine goesL_ (some 11) rfl rfl Tryz.func105 (by kernel_rfl) rfl #[.string a0] rfl (by (try simp only [List.map_toArray, List.map_cons, List.map_nil]); first | done | rfl | (simp only [List.length_drop, List.length_take]; rfl)) ?_; (with_reducible refine (hogsheadref1_Cut.calls k a0 t127 _ A5.out).mono ?_); rintro e w7 ⟨v128, rfl, ho0, hb⟩; refine ⟨_, rfl, ?_⟩; have n0_ := Aside0.mk (Kd.R_lower ho0 (below_size (by repeat (first | (with_reducible first | exact HB.out | apply below_alloc | apply pw_below_drewN | apply below_drew1) | exact HB.out)))); have n1_ := Aside0.mk (below_step (by repeat (first | (with_reducible first | exact HB.out | apply below_alloc | apply pw_below_drewN | apply below_drew1) | exact HB.out)) hb); clear HB; have HO129 := n0_; have HB := n1_; clear n0_ n1_; (try clear hb); (try clear hb2); (try clear hk); (try clear hi); (try clear ho0)))
   go_ret
   exact ⟨_, by first | rfl | (simp [errW_none, errW_some] <;> rfl) | (simp [*, errW_none, errW_some] <;> rfl), by (with_reducible repeat (first | apply Kd.R_alloc | apply Kd.R_drewN | apply Kd.R_drew)); exact HO129.out, by repeat (first | (with_reducible first | exact HB.out | apply below_alloc | apply pw_below_drewN | apply below_drew1) | exact HB.out)⟩
  ·replace c4 := Bool.eq_false_iff.mpr c4
   subst c4
   have H1 : (some ([] : List ByteArray)) = some r := by rw [if_neg (show ¬ (false = true) by decide)] at H; exact H
   clear H
   have H := H1
   clear H1
   obtain rfl := Option.some.inj H
   go_enter Tryz.func81, Tryz.ntmps81
   go_wp2_with (first | (go_at_call 80; (with_reducible refine (hogsheadref1_May.calls k a0 false _ A3.out).mono ?_); rintro e w8 ⟨rfl, hb⟩; have n0_ := Aside0.mk (below_step (by repeat (first | (with_reducible first | exact HB.out | apply below_alloc | apply pw_below_drewN | apply below_drew1) | exact HB.out)) hb); clear HB; have HB := n0_; clear n0_; (try clear hb); (try clear hb2); (try clear hk); (try clear hi)))
   go_ret
   exact ⟨_, by first | rfl | (simp [errW_none, errW_some] <;> rfl) | (simp [*, errW_none, errW_some] <;> rfl), by first | exact Kd.R_nil _ _ _ _ _ | exact Kd.N_nil _ _ _ _ _ | exact Kd.V_nil _ _ _ _ _ | exact Kd.Q_nil _ _ _ _ _ | exact Kd.S_nil _ _ _ _ _, by repeat (first | (with_reducible first | exact HB.out | apply below_alloc | apply pw_below_drewN | apply below_drew1) | exact HB.out)⟩
end Go.Proofs.YtdijnmcfpbceaaaGreatDoor.P

namespace Go.Proofs.YtdijnmcfpbceaaaGreatDoor.P
open Go.Proofs.YtdijnmcfpbceaaaGreatDoor.X
open Go.RowKit Go.Proofs.YtdijnmcfpbceaaaGreatDoorW.PrintWords Go.Proofs.YtdijnmcfpbceaaaGreatDoorW.PrintLast Go.Proofs.YtdijnmcfpbceaaaGreatDoorW.PrintMore
attribute [local go_sem] min2_int min_two
set_option linter.unusedVariables false
set_option linter.unusedSimpArgs false
mutual
def hogsheadref1_Join.l0 : Nat → List ByteArray → ByteArray → Int → Option (ByteArray × Bool)
 | 0, _, _, _ => none
 | k + 1, x0, x4, x5 => if x5 < (x0.length : Int) then (if 0 ≤ x5 then ((hogsheadref1_Part.f k (rdOf ByteArray.empty x0 x5)).bind fun t132 => (if t132 = true then (hogsheadref1_Join.j1 k x0 x4 x5 (decide ((x4.size : Int) > 200))) else (hogsheadref1_Join.j1 k x0 x4 x5 true))) else (none)) else ((hogsheadref1_May.f k x4).bind fun t130 => (if t130 = true then (some (x4, true)) else (some ((⟨#[]⟩ : ByteArray), false))))
def hogsheadref1_Join.j1 : Nat → List ByteArray → ByteArray → Int → Bool → Option (ByteArray × Bool)
 | 0, _, _, _, _ => none
 | k + 1, x0, x4, x5, x22 => if x22 = true then (some ((⟨#[]⟩ : ByteArray), false)) else (if x5 > 0 then (if x4.size + 1 ≤ 9223372036854775807 then (if 0 ≤ x5 then (if x5 < (x0.length : Int) then (if (x4 ++ (⟨#[47]⟩ : ByteArray)).size + (rdOf ByteArray.empty x0 x5).size ≤ 9223372036854775807 then (hogsheadref1_Join.l0 k x0 ((x4 ++ (⟨#[47]⟩ : ByteArray)) ++ (rdOf ByteArray.empty x0 x5)) (wrap64 (x5 + 1))) else (none)) else (none)) else (none)) else (none)) else (if 0 ≤ x5 then (if x5 < (x0.length : Int) then (if x4.size + (rdOf ByteArray.empty x0 x5).size ≤ 9223372036854775807 then (hogsheadref1_Join.l0 k x0 (x4 ++ (rdOf ByteArray.empty x0 x5)) (wrap64 (x5 + 1))) else (none)) else (none)) else (none)))
end
def hogsheadref1_Join.f (k : Nat) (l0 : List ByteArray) : Option (ByteArray × Bool) := hogsheadref1_Join.l0 k l0 (⟨#[]⟩ : ByteArray) 0
set_option maxHeartbeats 8000000 in
set_option maxRecDepth 100000 in
theorem hogsheadref1_Join.calls (k : Nat) (A0 : Option Addr) (c0 : Nat) (l0 : List ByteArray) (r1 : ByteArray) (r2 : Bool) (w : World) (hr0 : Kd.C Kd.string w A0 l0.length l0) (hc0 : l0.length ≤ c0) (h : hogsheadref1_Join.f k l0 = some (r1, r2)) :
  Calls Tryz.prog 82 #[.slice A0 l0.length c0] w fun e w' => e = .returned (.tuple #[.string r1, .bool r2]) ∧ Below w.heap.size w w' := by
 have HR0 := Aside0.mk hr0
 have HC0 := Aside0.mk hc0
 clear hr0 hc0
 have HB := Aside0.mk (Below.refl w.heap.size w)
 have H : (hogsheadref1_Join.l0 k l0 (⟨#[]⟩ : ByteArray) 0) = some (r1, r2) := h
 clear h
 have H' := Aside0.mk H
 clear H
 go_enter Tryz.func82, Tryz.ntmps82
 go_wp2
 go_loopg [4, 5] k (fun kq v4 v5 w' => ∃ (x4_1 : ByteArray) (x5_1 : Int), v4 = .string x4_1 ∧ v5 = .int .i64 x5_1 ∧ Aside0 (hogsheadref1_Join.l0 kq l0 x4_1 x5_1 = some (r1, r2)) ∧ Aside0 (kq ≤ k) ∧ Aside0 (Below w.heap.size w w'))
 case atStart => exact ⟨((⟨#[]⟩ : ByteArray)), (0), (by first | rfl | (simp; done) | (simp [*]; done) | exact congrArg Value.bool (nil_ne _) | exact congrArg Value.bool (nil_eq _) | exact congrArg Value.bool (nil_ne' _)), (by first | rfl | (simp; done) | (simp [*]; done) | exact congrArg Value.bool (nil_ne _) | exact congrArg Value.bool (nil_eq _) | exact congrArg Value.bool (nil_ne' _)), H', ⟨Nat.le_refl _⟩, ⟨by repeat (first | (with_reducible first | exact HB.out | apply below_alloc | apply pw_below_drewN | apply below_drew1) | exact HB.out)⟩⟩
 case round =>
  clear H'
  obtain ⟨x4_1, x5_1, rfl, rfl, HA, HK1, HB⟩ := hrel
  cases gk with
  | zero => exact absurd HA.out (by simp [hogsheadref1_Join.l0])
  | succ k1 =>
   have H := HA.out
   clear HA
   simp only [hogsheadref1_Join.l0] at H
   by_cases c2 : x5_1 < (l0.length : Int)
   ·rw [if_pos c2] at H
    have c2b0 : decide (x5_1 < (l0.length : Int)) = true := decide_eq_true c2
    clear c2
    have HC3 := Aside0.mk H
    clear H
    go_upto_region 5 with (fail)
    go_cut [22] (fun v22 wc => ∃ (kq : Nat) (x22_2 : Bool), v22 = .bool x22_2 ∧ Aside0 (hogsheadref1_Join.j1 kq l0 x4_1 x5_1 x22_2 = some (r1, r2)) ∧ Aside0 (kq ≤ k1) ∧ Aside0 (Below w.heap.size w wc))
    case first =>
     have H := HC3.out
     clear HC3
     by_cases c4 : 0 ≤ x5_1
     ·rw [if_pos c4] at H
      have c4b0 : decide (0 ≤ x5_1) = true := decide_eq_true c4
      clear c4
      (first | rw [c4b0] | (simp only [i64_w, i32_w]; rw [c4b0]) | skip)
      replace H := Option.bind_eq_some_iff.mp H
      obtain ⟨t132, A50, H⟩ := H
      replace H : (if t132 = true then (hogsheadref1_Join.j1 k1 l0 x4_1 x5_1 (decide ((x4_1.size : Int) > 200))) else (hogsheadref1_Join.j1 k1 l0 x4_1 x5_1 true)) = some (r1, r2) := H
      have A5 := Aside0.mk A50
      clear A50
      by_cases c6 : t132 = true
      ·subst c6
       have H1 : (hogsheadref1_Join.j1 k1 l0 x4_1 x5_1 (decide ((x4_1.size : Int) > 200))) = some (r1, r2) := by rw [if_pos rfl] at H; exact H
       clear H
       have H := H1
       clear H1
       have H' := Aside0.mk H
       clear H
       have p131 : 0 ≤ (x5_1 : Int) := of_decide_eq_true (by first | (with_reducible assumption) | assumption)
       have q131 : x5_1 < (l0.length : Int) := of_decide_eq_true (by first | (with_reducible assumption) | assumption)
       obtain ⟨ad131, e131, hx131_0⟩ := Kd.at_string HR0.out x5_1 p131 q131
       cases e131
       replace hx131_0 := (HB.out.cell (World.block_lt_of_cell? w _ hx131_0)).trans hx131_0
       replace p131 := eq_true p131
       replace q131 := eq_true q131
       go_wp2_with (first | ((with_reducible refine gate_callee (f := 106) rfl ?_); refine goesL_ (some 16) rfl rfl Tryz.func106 (by kernel_rfl) rfl #[.string (rdOf ByteArray.empty l0 x5_1)] rfl (by (try simp only [List.map_toArray, List.map_cons, List.map_nil]); first | done | rfl | (simp only [List.length_drop, List.length_take]; rfl)) ?_; (with_reducible refine (hogsheadref1_Part.calls k1 (rdOf ByteArray.empty l0 x5_1) true _ A5.out).mono ?_); rintro e w' ⟨rfl, ⟨nd, rfl⟩⟩; refine ⟨_, rfl, ?_⟩))
       go_meet
       case rel => exact ⟨_, (decide ((x4_1.size : Int) > 200)), (by first | rfl | (simp; done) | (simp [*]; done) | exact congrArg Value.bool (nil_ne _) | exact congrArg Value.bool (nil_eq _) | exact congrArg Value.bool (nil_ne' _)), H', ⟨by have := HK1.out; first | omega | exact Nat.le_refl _⟩, ⟨by repeat (first | (with_reducible first | exact HB.out | apply below_alloc | apply pw_below_drewN | apply below_drew1) | exact HB.out)⟩⟩
      ·replace c6 := Bool.eq_false_iff.mpr c6
       subst c6
       have H1 : (hogsheadref1_Join.j1 k1 l0 x4_1 x5_1 true) = some (r1, r2) := by rw [if_neg (show ¬ (false = true) by decide)] at H; exact H
       clear H
       have H := H1
       clear H1
       have H' := Aside0.mk H
       clear H
       have p131 : 0 ≤ (x5_1 : Int) := of_decide_eq_true (by first | (with_reducible assumption) | assumption)
       have q131 : x5_1 < (l0.length : Int) := of_decide_eq_true (by first | (with_reducible assumption) | assumption)
       obtain ⟨ad131, e131, hx131_0⟩ := Kd.at_string HR0.out x5_1 p131 q131
       cases e131
       replace hx131_0 := (HB.out.cell (World.block_lt_of_cell? w _ hx131_0)).trans hx131_0
       replace p131 := eq_true p131
       replace q131 := eq_true q131
       go_wp2_with (first | ((with_reducible refine gate_callee (f := 106) rfl ?_); refine goesL_ (some 16) rfl rfl Tryz.func106 (by kernel_rfl) rfl #[.string (rdOf ByteArray.empty l0 x5_1)] rfl (by (try simp only [List.map_toArray, List.map_cons, List.map_nil]); first | done | rfl | (simp only [List.length_drop, List.length_take]; rfl)) ?_; (with_reducible refine (hogsheadref1_Part.calls k1 (rdOf ByteArray.empty l0 x5_1) false _ A5.out).mono ?_); rintro e w' ⟨rfl, ⟨nd, rfl⟩⟩; refine ⟨_, rfl, ?_⟩))
       go_meet
       case rel => exact ⟨_, (true), (by first | rfl | (simp; done) | (simp [*]; done) | exact congrArg Value.bool (nil_ne _) | exact congrArg Value.bool (nil_eq _) | exact congrArg Value.bool (nil_ne' _)), H', ⟨by have := HK1.out; first | omega | exact Nat.le_refl _⟩, ⟨by repeat (first | (with_reducible first | exact HB.out | apply below_alloc | apply pw_below_drewN | apply below_drew1) | exact HB.out)⟩⟩
     ·rw [if_neg c4] at H
      exact absurd H (by simp)
    case rest =>
     clear HC3
     try clear c1
     try clear p1
     try clear q1
     try clear hx1
     try clear c2
     try clear c2b0
     try clear p2
     try clear c4
     try clear c4b0
     try clear c6
     try clear hx131_0
     try clear p131
     try clear q131
     obtain ⟨kq, x22_2, rfl, HA, HJ2, HB⟩ := hcut
     cases kq with
     | zero => exact absurd HA.out (by simp [hogsheadref1_Join.j1])
     | succ kj2 =>
      have H := HA.out
      clear HA
      simp only [hogsheadref1_Join.j1] at H
      by_cases c7 : x22_2 = true
      ·subst c7
       have H1 : (some ((⟨#[]⟩ : ByteArray), false)) = some (r1, r2) := by rw [if_pos rfl] at H; exact H
       clear H
       have H := H1
       clear H1
       simp only [Option.some.injEq, Prod.mk.injEq] at H
       obtain ⟨rfl, rfl⟩ := H
       go_wp2
       go_ret2
       exact ⟨by first | rfl | (simp [errW_none, errW_some] <;> rfl) | (simp [*, errW_none, errW_some] <;> rfl), by repeat (first | (with_reducible first | exact HB.out | apply below_alloc | apply pw_below_drewN | apply below_drew1) | exact HB.out)⟩
      ·replace c7 := Bool.eq_false_iff.mpr c7
       subst c7
       have H1 : (if x5_1 > 0 then (if x4_1.size + 1 ≤ 9223372036854775807 then (if 0 ≤ x5_1 then (if x5_1 < (l0.length : Int) then (if (x4_1 ++ (⟨#[47]⟩ : ByteArray)).size + (rdOf ByteArray.empty l0 x5_1).size ≤ 9223372036854775807 then (hogsheadref1_Join.l0 kj2 l0 ((x4_1 ++ (⟨#[47]⟩ : ByteArray)) ++ (rdOf ByteArray.empty l0 x5_1)) (wrap64 (x5_1 + 1))) else (none)) else (none)) else (none)) else (none)) else (if 0 ≤ x5_1 then (if x5_1 < (l0.length : Int) then (if x4_1.size + (rdOf ByteArray.empty l0 x5_1).size ≤ 9223372036854775807 then (hogsheadref1_Join.l0 kj2 l0 (x4_1 ++ (rdOf ByteArray.empty l0 x5_1)) (wrap64 (x5_1 + 1))) else (none)) else (none)) else (none))) = some (r1, r2) := by rw [if_neg (show ¬ (false = true) by decide)] at H; exact H
       clear H
       have H := H1
       clear H1
       by_cases c8 : x5_1 > 0
       ·rw [if_pos c8] at H
        have c8b0 : decide (0 < x5_1) = true := decide_eq_true c8
        clear c8
        by_cases c9 : x4_1.size + 1 ≤ 9223372036854775807
        ·rw [if_pos c9] at H
         have c9b0 := eq_true c9
         have c9b1 : decide (x4_1.size + 1 ≤ 9223372036854775807) = true := decide_eq_true c9
         try have c9b2 : (9223372036854775807 < x4_1.size + 1) = False := eq_false (Nat.not_lt.2 c9)
         have Sc9 := Aside0.mk c9
         clear c9
         by_cases c10 : 0 ≤ x5_1
         ·rw [if_pos c10] at H
          have c10b0 : decide (0 ≤ x5_1) = true := decide_eq_true c10
          clear c10
          by_cases c11 : x5_1 < (l0.length : Int)
          ·rw [if_pos c11] at H
           have c11b0 : decide (x5_1 < (l0.length : Int)) = true := decide_eq_true c11
           clear c11
           by_cases c12 : (x4_1 ++ (⟨#[47]⟩ : ByteArray)).size + (rdOf ByteArray.empty l0 x5_1).size ≤ 9223372036854775807
           ·rw [if_pos c12] at H
            have c12b0 := eq_true c12
            have c12b1 : decide ((x4_1 ++ (⟨#[47]⟩ : ByteArray)).size + (rdOf ByteArray.empty l0 x5_1).size ≤ 9223372036854775807) = true := decide_eq_true c12
            try have c12b2 : (9223372036854775807 < (x4_1 ++ (⟨#[47]⟩ : ByteArray)).size + (rdOf ByteArray.empty l0 x5_1).size) = False := eq_false (Nat.not_lt.2 c12)
            have Sc12 := Aside0.mk c12
            clear c12
            have H' := Aside0.mk H
            clear H
            have p133 : 0 ≤ (x5_1 : Int) := of_decide_eq_true (by first | (with_reducible assumption) | assumption)
            have q133 : x5_1 < (l0.length : Int) := of_decide_eq_true (by first | (with_reducible assumption) | assumption)
            obtain ⟨ad133, e133, hx133_0⟩ := Kd.at_string HR0.out x5_1 p133 q133
            cases e133
            replace hx133_0 := (HB.out.cell (World.block_lt_of_cell? w _ hx133_0)).trans hx133_0
            replace p133 := eq_true p133
            replace q133 := eq_true q133
            go_wp2
            try any_goals (exfalso; have h_ := Sc9.out; rename_i hb_; (try simp only [ByteArray.size_extract, ByteArray.size_append] at h_ hb_); (try simp only [ByteArray.size, List.size_toArray, List.length_cons, List.length_nil] at h_ hb_); omega)
            try any_goals (exfalso; have h_ := Sc12.out; rename_i hb_; (try simp only [ByteArray.size_extract, ByteArray.size_append] at h_ hb_); (try simp only [ByteArray.size, List.size_toArray, List.length_cons, List.length_nil] at h_ hb_); omega)
            go_roundg kj2
            case measure => have := HK1.out; have := HJ2.out; omega
            case rel => exact ⟨((x4_1 ++ (⟨#[47]⟩ : ByteArray)) ++ (rdOf ByteArray.empty l0 x5_1)), (wrap64 (x5_1 + 1)), (by first | rfl | (simp; done) | (simp [*]; done) | exact congrArg Value.bool (nil_ne _) | exact congrArg Value.bool (nil_eq _) | exact congrArg Value.bool (nil_ne' _)), (by first | rfl | (simp; done) | (simp [*]; done) | exact congrArg Value.bool (nil_ne _) | exact congrArg Value.bool (nil_eq _) | exact congrArg Value.bool (nil_ne' _)), H', ⟨by have := HK1.out; have := HJ2.out; omega⟩, ⟨by repeat (first | (with_reducible first | exact HB.out | apply below_alloc | apply pw_below_drewN | apply below_drew1) | exact HB.out)⟩⟩
           ·rw [if_neg c12] at H
            exact absurd H (by simp)
          ·rw [if_neg c11] at H
           exact absurd H (by simp)
         ·rw [if_neg c10] at H
          exact absurd H (by simp)
        ·rw [if_neg c9] at H
         exact absurd H (by simp)
       ·rw [if_neg c8] at H
        have c8b0 : decide (0 < x5_1) = false := decide_eq_false c8
        clear c8
        by_cases c13 : 0 ≤ x5_1
        ·rw [if_pos c13] at H
         have c13b0 : decide (0 ≤ x5_1) = true := decide_eq_true c13
         clear c13
         by_cases c14 : x5_1 < (l0.length : Int)
         ·rw [if_pos c14] at H
          have c14b0 : decide (x5_1 < (l0.length : Int)) = true := decide_eq_true c14
          clear c14
          by_cases c15 : x4_1.size + (rdOf ByteArray.empty l0 x5_1).size ≤ 9223372036854775807
          ·rw [if_pos c15] at H
           have c15b0 := eq_true c15
           have c15b1 : decide (x4_1.size + (rdOf ByteArray.empty l0 x5_1).size ≤ 9223372036854775807) = true := decide_eq_true c15
           try have c15b2 : (9223372036854775807 < x4_1.size + (rdOf ByteArray.empty l0 x5_1).size) = False := eq_false (Nat.not_lt.2 c15)
           have Sc15 := Aside0.mk c15
           clear c15
           have H' := Aside0.mk H
           clear H
           have p134 : 0 ≤ (x5_1 : Int) := of_decide_eq_true (by first | (with_reducible assumption) | assumption)
           have q134 : x5_1 < (l0.length : Int) := of_decide_eq_true (by first | (with_reducible assumption) | assumption)
           obtain ⟨ad134, e134, hx134_0⟩ := Kd.at_string HR0.out x5_1 p134 q134
           cases e134
           replace hx134_0 := (HB.out.cell (World.block_lt_of_cell? w _ hx134_0)).trans hx134_0
           replace p134 := eq_true p134
           replace q134 := eq_true q134
           go_wp2
           try any_goals (exfalso; have h_ := Sc15.out; rename_i hb_; (try simp only [ByteArray.size_extract, ByteArray.size_append] at h_ hb_); (try simp only [ByteArray.size, List.size_toArray, List.length_cons, List.length_nil] at h_ hb_); omega)
           go_roundg kj2
           case measure => have := HK1.out; have := HJ2.out; omega
           case rel => exact ⟨(x4_1 ++ (rdOf ByteArray.empty l0 x5_1)), (wrap64 (x5_1 + 1)), (by first | rfl | (simp; done) | (simp [*]; done) | exact congrArg Value.bool (nil_ne _) | exact congrArg Value.bool (nil_eq _) | exact congrArg Value.bool (nil_ne' _)), (by first | rfl | (simp; done) | (simp [*]; done) | exact congrArg Value.bool (nil_ne _) | exact congrArg Value.bool (nil_eq _) | exact congrArg Value.bool (nil_ne' _)), H', ⟨by have := HK1.out; have := HJ2.out; omega⟩, ⟨by repeat (first | (with_reducible first | exact HB.out | apply below_alloc | apply pw_below_drewN | apply below_drew1) | exact HB.out)⟩⟩
          ·rw [if_neg c15] at H
           exact absurd H (by simp)
         ·rw [if_neg c14] at H
          exact absurd H (by simp)
        ·rw [if_neg c13] at H
         exact absurd H (by simp)
   ·rw [if_neg c2] at H
    have c2b0 : decide (x5_1 < (l0.length : Int)) = false := decide_eq_false c2
    clear c2
    replace H := Option.bind_eq_some_iff.mp H
    obtain ⟨t130, A160, H⟩ := H
    replace H : (if t130 = true then (some (x4_1, true)) else (some ((⟨#[]⟩ : ByteArray), false))) = some (r1, r2) := H
    have A16 := Aside0.mk A160
    clear A160
    by_cases c17 : t130 = true
    ·subst c17
     have H1 : (some (x4_1, true)) = some (r1, r2) := by rw [if_pos rfl] at H; exact H
     clear H
     have H := H1
     clear H1
     simp only [Option.some.injEq, Prod.mk.injEq] at H
     obtain ⟨rfl, rfl⟩ := H
     go_wp2_with (first | ((with_reducible refine gate_callee (f := 80) rfl ?_); refine goesL_ (some 34) rfl rfl Tryz.func80 (by kernel_rfl) rfl #[.string x4_1] rfl (by (try simp only [List.map_toArray, List.map_cons, List.map_nil]); first | done | rfl | (simp only [List.length_drop, List.length_take]; rfl)) ?_; (with_reducible refine (hogsheadref1_May.calls k1 x4_1 true _ A16.out).mono ?_); rintro e w18 ⟨rfl, hb⟩; refine ⟨_, rfl, ?_⟩; have n0_ := Aside0.mk (below_step (by repeat (first | (with_reducible first | exact HB.out | apply below_alloc | apply pw_below_drewN | apply below_drew1) | exact HB.out)) hb); clear HB; have HB := n0_; clear n0_; (try clear hb); (try clear hb2); (try clear hk); (try clear hi)))
     go_ret2
     exact ⟨by first | rfl | (simp [errW_none, errW_some] <;> rfl) | (simp [*, errW_none, errW_some] <;> rfl), by repeat (first | (with_reducible first | exact HB.out | apply below_alloc | apply pw_below_drewN | apply below_drew1) | exact HB.out)⟩
    ·replace c17 := Bool.eq_false_iff.mpr c17
     subst c17
     have H1 : (some ((⟨#[]⟩ : ByteArray), false)) = some (r1, r2) := by rw [if_neg (show ¬ (false = true) by decide)] at H; exact H
     clear H
     have H := H1
     clear H1
     simp only [Option.some.injEq, Prod.mk.injEq] at H
     obtain ⟨rfl, rfl⟩ := H
     go_wp2_with (first | ((with_reducible refine gate_callee (f := 80) rfl ?_); refine goesL_ (some 34) rfl rfl Tryz.func80 (by kernel_rfl) rfl #[.string x4_1] rfl (by (try simp only [List.map_toArray, List.map_cons, List.map_nil]); first | done | rfl | (simp only [List.length_drop, List.length_take]; rfl)) ?_; (with_reducible refine (hogsheadref1_May.calls k1 x4_1 false _ A16.out).mono ?_); rintro e w19 ⟨rfl, hb⟩; refine ⟨_, rfl, ?_⟩; have n0_ := Aside0.mk (below_step (by repeat (first | (with_reducible first | exact HB.out | apply below_alloc | apply pw_below_drewN | apply below_drew1) | exact HB.out)) hb); clear HB; have HB := n0_; clear n0_; (try clear hb); (try clear hb2); (try clear hk); (try clear hi)))
     go_ret2
     exact ⟨by first | rfl | (simp [errW_none, errW_some] <;> rfl) | (simp [*, errW_none, errW_some] <;> rfl), by repeat (first | (with_reducible first | exact HB.out | apply below_alloc | apply pw_below_drewN | apply below_drew1) | exact HB.out)⟩
end Go.Proofs.YtdijnmcfpbceaaaGreatDoor.P

namespace Go.Proofs.YtdijnmcfpbceaaaGreatDoor.P
open Go.Proofs.YtdijnmcfpbceaaaGreatDoor.X
open Go.RowKit Go.Proofs.YtdijnmcfpbceaaaGreatDoorW.PrintWords Go.Proofs.YtdijnmcfpbceaaaGreatDoorW.PrintLast Go.Proofs.YtdijnmcfpbceaaaGreatDoorW.PrintMore
attribute [local go_sem] min2_int min_two
set_option linter.unusedVariables false
set_option linter.unusedSimpArgs false
def hogsheadref1_Parent.f (k : Nat) (a0 : ByteArray) : Option (ByteArray × Bool) := (hogsheadref1_Split.f k a0).bind fun t135 => (if (t135.length : Int) = 0 then (some ((⟨#[]⟩ : ByteArray), false)) else (if 0 ≤ (wrap64 ((t135.length : Int) - 1)) then (if (wrap64 ((t135.length : Int) - 1)) ≤ (t135.length : Int) then ((hogsheadref1_Join.f k (t135.take ((wrap64 ((t135.length : Int) - 1)) : Int).toNat)).bind fun bt142 => (some (bt142.1, bt142.2))) else (none)) else (none)))
set_option maxHeartbeats 8000000 in
set_option maxRecDepth 100000 in
theorem hogsheadref1_Parent.calls (k : Nat) (a0 : ByteArray) (r1 : ByteArray) (r2 : Bool) (w : World) (h : hogsheadref1_Parent.f k a0 = some (r1, r2)) :
  Calls Tryz.prog 63 #[.string a0] w fun e w' => e = .returned (.tuple #[.string r1, .bool r2]) ∧ Below w.heap.size w w' := by
 have HB := Aside0.mk (Below.refl w.heap.size w)
 have H : ((hogsheadref1_Split.f k a0).bind fun t135 => (if (t135.length : Int) = 0 then (some ((⟨#[]⟩ : ByteArray), false)) else (if 0 ≤ (wrap64 ((t135.length : Int) - 1)) then (if (wrap64 ((t135.length : Int) - 1)) ≤ (t135.length : Int) then ((hogsheadref1_Join.f k (t135.take ((wrap64 ((t135.length : Int) - 1)) : Int).toNat)).bind fun bt142 => (some (bt142.1, bt142.2))) else (none)) else (none)))) = some (r1, r2) := h
 clear h
 replace H := Option.bind_eq_some_iff.mp H
 obtain ⟨t135, A20, H⟩ := H
 replace H : (if (t135.length : Int) = 0 then (some ((⟨#[]⟩ : ByteArray), false)) else (if 0 ≤ (wrap64 ((t135.length : Int) - 1)) then (if (wrap64 ((t135.length : Int) - 1)) ≤ (t135.length : Int) then ((hogsheadref1_Join.f k (t135.take ((wrap64 ((t135.length : Int) - 1)) : Int).toNat)).bind fun bt142 => (some (bt142.1, bt142.2))) else (none)) else (none))) = some (r1, r2) := H
 have A2 := Aside0.mk A20
 clear A20
 by_cases c3 : (t135.length : Int) = 0
 ·rw [if_pos c3] at H
  have c3b0 : ((t135.length : Int) == 0) = true := beq_iff_eq.mpr c3
  have c3b1 : ((t135.length : Int) != 0) = false := bne_eq_false_iff_eq.mpr c3
  clear c3
  simp only [Option.some.injEq, Prod.mk.injEq] at H
  obtain ⟨rfl, rfl⟩ := H
  go_enter Tryz.func63, Tryz.ntmps63
  go_wp2_with (first | ((with_reducible refine gate_callee (f := 81) rfl ?_); refine goesL_ (some 6) rfl rfl Tryz.func81 (by kernel_rfl) rfl #[.string a0] rfl (by (try simp only [List.map_toArray, List.map_cons, List.map_nil]); first | done | rfl | (simp only [List.length_drop, List.length_take]; rfl)) ?_; (with_reducible refine (hogsheadref1_Split.calls k a0 t135 _ A2.out).mono ?_); rintro e w4 ⟨v136, rfl, ho0, hb⟩; refine ⟨_, rfl, ?_⟩; have n0_ := Aside0.mk (Kd.R_lower ho0 (below_size (by repeat (first | (with_reducible first | exact HB.out | apply below_alloc | apply pw_below_drewN | apply below_drew1) | exact HB.out)))); have n1_ := Aside0.mk (below_step (by repeat (first | (with_reducible first | exact HB.out | apply below_alloc | apply pw_below_drewN | apply below_drew1) | exact HB.out)) hb); clear HB; have HO137 := n0_; have HB := n1_; clear n0_ n1_; (try clear hb); (try clear hb2); (try clear hk); (try clear hi); (try clear ho0); obtain ⟨Ao5, co5, eo5⟩ := Kd.R_slice HO137.out; subst eo5))
  go_ret2
  exact ⟨by first | rfl | (simp [errW_none, errW_some] <;> rfl) | (simp [*, errW_none, errW_some] <;> rfl), by repeat (first | (with_reducible first | exact HB.out | apply below_alloc | apply pw_below_drewN | apply below_drew1) | exact HB.out)⟩
 ·rw [if_neg c3] at H
  have c3b0 : ((t135.length : Int) == 0) = false := beq_eq_false_iff_ne.mpr c3
  have c3b1 : ((t135.length : Int) != 0) = true := bne_iff_ne.mpr c3
  have c3b2 : ¬ (t135 = []) := fun h_ => c3 (by rw [h_]; rfl)
  obtain ⟨ji6, hji6⟩ : ∃ j_ : Int, (wrap64 ((t135.length : Int) - 1)) = j_ := ⟨_, rfl⟩
  replace H : (if 0 ≤ (ji6) then (if (ji6) ≤ (t135.length : Int) then ((hogsheadref1_Join.f k (t135.take ((ji6) : Int).toNat)).bind fun bt142 => (some (bt142.1, bt142.2))) else (none)) else (none)) = some (r1, r2) := by first | (rw [hji6] at H; exact H) | (simp only [hji6] at H ⊢; exact H)
  (try rw [hji6] at A2)
  have hji6w : (IntKind.i64.wrap ((t135.length : Int) - 1)) = ji6 := (i64_w _).trans hji6
  by_cases c7 : 0 ≤ (ji6)
  ·rw [if_pos c7] at H
   have c7b0 := eq_true c7
   have c7b1 : decide (0 ≤ (ji6)) = true := decide_eq_true c7
   clear c7
   by_cases c8 : (ji6) ≤ (t135.length : Int)
   ·rw [if_pos c8] at H
    have c8b0 := eq_true c8
    have c8b1 : decide ((ji6) ≤ (t135.length : Int)) = true := decide_eq_true c8
    clear c8
    obtain ⟨y138, hy138⟩ : ∃ y_ : List ByteArray, y_ = (t135.take ((ji6) : Int).toNat) := ⟨_, rfl⟩
    replace H : ((hogsheadref1_Join.f k y138).bind fun bt142 => (some (bt142.1, bt142.2))) = some (r1, r2) := by first | (rw [hy138]; with_reducible exact H) | (have H2_ := (Option.bind_some _ _).symm.trans H; rw [hy138]; with_reducible exact H2_) | (have H2_ := (Option.bind_some _ _).symm.trans H; with_reducible exact H2_) | with_reducible exact H | (rw [hy138]; exact H) | exact H
    have Ny138 := Aside0.mk hy138
    clear hy138
    replace H := Option.bind_eq_some_iff.mp H
    obtain ⟨⟨t142, t143⟩, A90, H⟩ := H
    replace H : (some (t142, t143)) = some (r1, r2) := H
    have A9 := Aside0.mk A90
    clear A90
    simp only [Option.some.injEq, Prod.mk.injEq] at H
    obtain ⟨rfl, rfl⟩ := H
    go_enter Tryz.func63, Tryz.ntmps63
    go_wp2_with (first | ((with_reducible refine gate_callee (f := 81) rfl ?_); refine goesL_ (some 6) rfl rfl Tryz.func81 (by kernel_rfl) rfl #[.string a0] rfl (by (try simp only [List.map_toArray, List.map_cons, List.map_nil]); first | done | rfl | (simp only [List.length_drop, List.length_take]; rfl)) ?_; (with_reducible refine (hogsheadref1_Split.calls k a0 t135 _ A2.out).mono ?_); rintro e w10 ⟨v136, rfl, ho0, hb⟩; refine ⟨_, rfl, ?_⟩; have n0_ := Aside0.mk (Kd.R_lower ho0 (below_size (by repeat (first | (with_reducible first | exact HB.out | apply below_alloc | apply pw_below_drewN | apply below_drew1) | exact HB.out)))); have n1_ := Aside0.mk (below_step (by repeat (first | (with_reducible first | exact HB.out | apply below_alloc | apply pw_below_drewN | apply below_drew1) | exact HB.out)) hb); clear HB; have HO137 := n0_; have HB := n1_; clear n0_ n1_; (try clear hb); (try clear hb2); (try clear hk); (try clear hi); (try clear ho0); obtain ⟨Ao11, co11, eo11⟩ := Kd.R_slice HO137.out; subst eo11; have q12 : ((ji6) : Int) ≤ ((t135.length : Int) : Int) := of_decide_eq_true (by first | (with_reducible assumption) | assumption); obtain ⟨i012, hi012, _, hsz12, _⟩ := info_parts info9; have hroom12 : t135.length ≤ co11 := (Kd.R_reads' HO137.out).2.1; have hC12 : Kd.C Kd.string _ Ao11 t135.length t135 := (Kd.R_reads' HO137.out).2.2; have hcut12 := cut_to (P := Tryz.prog) 43 9 .i64 Tryz.underlying43 hi012 Ao11 t135.length co11 (ji6) (of_decide_eq_true (by first | (with_reducible assumption) | assumption)) q12 hroom12; have hr12 := Kd.C_take (m := ((ji6) : Int).toNat) hC12 (by omega); have hy12 : y138.length = ((ji6) : Int).toNat := (by rw [Ny138.out, List.length_take]; omega); rw [← Ny138.out] at hr12; rw [← hy12] at hcut12; have HR141 := Aside0.mk hr12; have HC141 := Aside0.mk (show y138.length ≤ co11 from by omega); clear hr12 hC12 hroom12 hi012 hsz12; have KY12 := Aside0.mk hy12; clear hy12; have KL12 := Aside0.mk (show ((ji6) : Int).toNat ≤ t135.length from by omega); replace q12 := eq_true q12) | ((with_reducible refine gate_callee (f := 82) rfl ?_); refine goesL_ (some 15) rfl rfl Tryz.func82 (by kernel_rfl) rfl #[.slice Ao11 y138.length co11] rfl (by (try simp only [List.map_toArray, List.map_cons, List.map_nil]); first | done | rfl | (simp only [List.length_drop, List.length_take]; rfl)) ?_; (with_reducible refine (hogsheadref1_Join.calls k _ _ y138 t142 t143 _ ?side1 ?side2 A9.out).mono ?_); (case side1 => repeat (first | exact (by repeat (first | (with_reducible exact HR141.out) | (with_reducible refine Kd.C_alloc ?_ _) | (with_reducible refine Kd.C_drewN ?_ _) | (with_reducible refine Kd.C_drew ?_) | exact HR141.out)) | (with_reducible refine Kd.C_alloc ?_ _) | (with_reducible refine Kd.C_drewN ?_ _) | (with_reducible refine Kd.C_drew ?_))); (case side2 => exact HC141.out); rintro e w13 ⟨rfl, hb⟩; refine ⟨_, rfl, ?_⟩; have n0_ := Aside0.mk (Kd.R_below (by (with_reducible repeat (first | apply Kd.R_alloc | apply Kd.R_drewN | apply Kd.R_drew)); exact HO137.out) hb); have n1_ := Aside0.mk (Kd.C_below (by repeat (first | (with_reducible exact HR141.out) | (with_reducible refine Kd.C_alloc ?_ _) | (with_reducible refine Kd.C_drewN ?_ _) | (with_reducible refine Kd.C_drew ?_) | exact HR141.out)) hb); have n2_ := Aside0.mk (below_step (by repeat (first | (with_reducible first | exact HB.out | apply below_alloc | apply pw_below_drewN | apply below_drew1) | exact HB.out)) hb); clear HO137; clear HR141; clear HB; have HO137 := n0_; have HR141 := n1_; have HB := n2_; clear n0_ n1_ n2_; (try clear hb); (try clear hb2); (try clear hk); (try clear hi)))
    go_ret2
    exact ⟨by first | rfl | (simp [errW_none, errW_some] <;> rfl) | (simp only [← hji6]; first | rfl | (simp [errW_none, errW_some] <;> rfl)) | (simp [*, errW_none, errW_some] <;> rfl), by repeat (first | (with_reducible first | exact HB.out | apply below_alloc | apply pw_below_drewN | apply below_drew1) | exact HB.out)⟩
   ·rw [if_neg c8] at H
    exact absurd H (by simp)
  ·rw [if_neg c7] at H
   exact absurd H (by simp)
end Go.Proofs.YtdijnmcfpbceaaaGreatDoor.P

namespace Go.Proofs.YtdijnmcfpbceaaaGreatDoor.X
open Go.RowKit Go.Proofs.YtdijnmcfpbceaaaGreatDoorW.PrintWords Go.Proofs.YtdijnmcfpbceaaaGreatDoorW.PrintLast Go.Proofs.YtdijnmcfpbceaaaGreatDoorW.PrintMore Go.Proofs.YtdijnmcfpbceaaaGreatDoor.P
set_option linter.unusedVariables false
set_option linter.unusedSimpArgs false
theorem baS_append (a b : List UInt8) : baS a ++ baS b = baS (a ++ b) := by
  apply ByteArray.ext
  simp [baS]
theorem baS_size (l : List UInt8) : (baS l).size = l.length := size_mk l
theorem split_eq (s : ByteArray) (hn : s.size ≤ 100000) : Ev (fun k => hogsheadref1_Split.f k s) (if s.data.toList ≠ [] ∧ pathB s.data.toList = true then (cutL 47 s.data.toList).map baS else []) := by
  obtain ⟨K1, h1⟩ := refPath_eq s hn
  obtain ⟨K2, h2⟩ := refCut_eq s hn
  refine ⟨K1 + K2, fun k hk => ?_⟩
  have h1 := h1 k (by omega)
  have h2 := h2 k (by omega)
  simp only at h1 h2
  show hogsheadref1_Split.f k s = _
  unfold hogsheadref1_Split.f
  rw [ByteArray.toList_eq]
  by_cases h0 : s.data.toList = []
  · rw [if_pos h0, if_neg (fun x => x.1 h0)]
  · rw [if_neg h0, h1, Option.bind_some]
    by_cases hp : pathB s.data.toList = true
    · rw [if_pos hp, if_pos ⟨h0, hp⟩, h2, Option.bind_some]
    · rw [if_neg hp, if_neg (fun x => hp x.2)]
theorem join_l0 (ps : List (List UInt8)) (hps : ∀ p ∈ ps, partB p = true) (hl : (joinL 47 ps).length ≤ 200) (hn : ps.length ≤ 1000) (hp : pathB (joinL 47 ps) = true) : ∀ (d i : Nat), ps.length - i = d → i ≤ ps.length →
    Ev (fun k => hogsheadref1_Join.l0 k (ps.map baS) (baS (joinL 47 (ps.take i))) (i : Int)) (baS (joinL 47 ps), true) := by
  intro d
  induction d with
  | zero =>
    intro i hd hi
    obtain ⟨K1, h1⟩ := refPath_eq (baS (joinL 47 ps)) (by rw [baS_size]; omega)
    refine ⟨K1 + 1, fun k hk => ?_⟩
    obtain ⟨k, rfl⟩ : ∃ m, k = m + 1 := ⟨k - 1, by omega⟩
    have h1 := h1 k (by omega)
    simp only at h1
    simp only [hogsheadref1_Join.l0]
    rw [if_neg (by rw [List.length_map]; omega), List.take_of_length_le (by omega), h1, Option.bind_some, ba_list, if_pos hp]
  | succ d ih =>
    intro i hd hi
    have hlt : i < ps.length := by omega
    have hlm : i < (ps.map baS).length := by rw [List.length_map]; exact hlt
    have hjl : (joinL 47 (ps.take (i + 1))).length ≤ 200 := by
      have := joinL_length 47 (ps.take (i + 1)) (ps.drop (i + 1))
      rw [List.take_append_drop] at this
      omega
    have hjl0 : (joinL 47 (ps.take i)).length ≤ 200 := by
      have := joinL_length 47 (ps.take i) (ps.drop i)
      rw [List.take_append_drop] at this
      omega
    have hpl : ps[i].length ≤ 60 := by
      have := hps ps[i] (List.getElem_mem _)
      unfold partB at this
      simp only [Bool.and_eq_true, decide_eq_true_eq] at this
      exact this.1.1.1.1.1.2
    have hrd : rdOf ByteArray.empty (ps.map baS) (i : Int) = baS ps[i] := by
      rw [rdOf_get _ _ hlm, List.getElem_map]
    obtain ⟨K1, h1⟩ := refPart_eq (baS ps[i]) (by rw [baS_size]; omega)
    obtain ⟨K2, h2⟩ := ih (i + 1) (by omega) (by omega)
    refine ⟨K1 + K2 + 2, fun k hk => ?_⟩
    obtain ⟨k, rfl⟩ : ∃ m, k = m + 2 := ⟨k - 2, by omega⟩
    have h1 := h1 (k + 1) (by omega)
    have h2 := h2 k (by omega)
    simp only at h1 h2
    simp only [hogsheadref1_Join.l0]
    rw [if_pos (by omega), if_pos (by omega), hrd, h1, Option.bind_some, ba_list, if_pos (hps _ (List.getElem_mem _))]
    have hno : decide (((baS (joinL 47 (ps.take i))).size : Int) > 200) = false := by
      rw [baS_size, decide_eq_false_iff_not]
      omega
    rw [hno]
    simp only [hogsheadref1_Join.j1]
    rw [if_neg (by decide), hrd]
    have htk : ps.take (i + 1) = ps.take i ++ [ps[i]] := List.take_succ_eq_append_getElem hlt
    by_cases h0 : i = 0
    · subst h0
      rw [if_neg (show ¬ ((0 : Nat) : Int) > 0 by omega), if_pos (by omega), if_pos (by omega), if_pos (by rw [baS_size, baS_size]; omega), wrap_i 0 ps.length hlt (by omega), baS_append]
      rw [htk] at h2
      exact h2
    · rw [if_pos (by omega), if_pos (by rw [baS_size]; omega), if_pos (by omega), if_pos (by omega)]
      have e47 : (⟨#[47]⟩ : ByteArray) = baS [47] := rfl
      rw [e47, baS_append, baS_append, if_pos (by rw [baS_size, baS_size, List.length_append]; simp; omega), wrap_i i ps.length hlt (by omega)]
      rw [htk, joinL_append 47 _ _ (fun e => by have := congrArg List.length e; rw [List.length_take, List.length_nil] at this; omega)] at h2
      rw [List.append_assoc]
      exact h2
theorem refParent_eq (s : ByteArray) (hn : s.size ≤ 100000) : Ev (fun k => hogsheadref1_Parent.f k s) (if s.data.toList ≠ [] ∧ pathB s.data.toList = true then (upS s, true) else (⟨#[]⟩, false)) := by
  obtain ⟨K1, h1⟩ := split_eq s hn
  by_cases hc : s.data.toList ≠ [] ∧ pathB s.data.toList = true
  · have hup := up_path hc.2
    have hcn := cutL_count 47 s.data.toList
    have hcl := data_length s
    have hpp : ∀ p ∈ (cutL 47 s.data.toList).dropLast, partB p = true := fun p hx => by
      have h := hc.2
      unfold pathB at h
      rw [decide_eq_false hc.1, Bool.false_or, Bool.and_eq_true, Bool.and_eq_true, List.all_eq_true] at h
      exact h.1.2 p (List.dropLast_subset _ hx)
    have hul : (joinL 47 (cutL 47 s.data.toList).dropLast).length ≤ 200 := by
      have h := hup
      unfold pathB upB at h
      rw [Bool.or_eq_true, Bool.and_eq_true, Bool.and_eq_true, decide_eq_true_eq, decide_eq_true_eq] at h
      rcases h with h | h
      · rw [h]
        simp
      · exact h.1.1
    have hdl : (cutL 47 s.data.toList).dropLast.length ≤ 1000 := by
      have h := hc.2
      unfold pathB at h
      rw [decide_eq_false hc.1, Bool.false_or, Bool.and_eq_true, decide_eq_true_eq] at h
      rw [List.length_dropLast]
      omega
    obtain ⟨K2, h2⟩ := join_l0 (cutL 47 s.data.toList).dropLast hpp hul hdl hup _ 0 rfl (Nat.zero_le _)
    refine ⟨K1 + K2, fun k hk => ?_⟩
    have h1 := h1 k (by omega)
    have h2 := h2 k (by omega)
    simp only at h1 h2
    show hogsheadref1_Parent.f k s = _
    unfold hogsheadref1_Parent.f
    rw [h1, if_pos hc, Option.bind_some, if_pos hc]
    have hne := cutL_ne 47 s.data.toList
    have hpos : 0 < (cutL 47 s.data.toList).length := List.length_pos_iff.2 hne
    rw [List.length_map, if_neg (by omega)]
    have hw : wrap64 (((cutL 47 s.data.toList).length : Int) - 1) = (((cutL 47 s.data.toList).length - 1 : Nat) : Int) := by
      rw [show ((cutL 47 s.data.toList).length : Int) - 1 = (((cutL 47 s.data.toList).length - 1 : Nat) : Int) from by omega]
      unfold wrap64; omega
    rw [hw, if_pos (by omega), if_pos (by omega), Int.toNat_natCast, ← List.map_take, ← List.dropLast_eq_take]
    have h2' : hogsheadref1_Join.f k ((cutL 47 s.data.toList).dropLast.map baS) = _ := h2
    rw [h2', Option.bind_some]
    rfl
  · refine ⟨K1, fun k hk => ?_⟩
    have h1 := h1 k hk
    simp only at h1
    show hogsheadref1_Parent.f k s = _
    unfold hogsheadref1_Parent.f
    rw [h1, if_neg hc, Option.bind_some, if_neg hc]
    rfl
end Go.Proofs.YtdijnmcfpbceaaaGreatDoor.X

namespace Go.Proofs.YtdijnmcfpbceaaaGreatDoor.P
open Go.Proofs.YtdijnmcfpbceaaaGreatDoor.X
open Go.RowKit Go.Proofs.YtdijnmcfpbceaaaGreatDoorW.PrintWords Go.Proofs.YtdijnmcfpbceaaaGreatDoorW.PrintLast Go.Proofs.YtdijnmcfpbceaaaGreatDoorW.PrintMore
attribute [local go_sem] min2_int min_two
set_option linter.unusedVariables false
set_option linter.unusedSimpArgs false
mutual
def hogsheadref2_Good.j0 : Nat → Bool → ByteArray → Int → ByteArray → Option (Bool)
 | 0, _, _, _, _ => none
 | k + 1, x13, x145000, x145001, x145002 => if x13 = true then (some false) else (if x145001 = 1 then (some (x145002.toList == ([] : List UInt8))) else (if x145001 = 2 then (hogsheadref2_Good.j1 k x145001 (x145001 == 2) x145000 x145001 x145002) else (hogsheadref2_Good.j1 k x145001 (x145001 == 3) x145000 x145001 x145002)))
def hogsheadref2_Good.j1 : Nat → Int → Bool → ByteArray → Int → ByteArray → Option (Bool)
 | 0, _, _, _, _, _ => none
 | k + 1, x15, x21, x145000, x145001, x145002 => if x21 = true then (some true) else (if x15 = 4 then (hogsheadref2_Good.l0 k 0 x145000 x145001 x145002) else (some false))
def hogsheadref2_Good.l0 : Nat → Int → ByteArray → Int → ByteArray → Option (Bool)
 | 0, _, _, _, _ => none
 | k + 1, x3, x145000, x145001, x145002 => if x3 < (x145002.size : Int) then (if 0 ≤ x3 then (if (bt x145002 x3) = 0 then (some false) else (hogsheadref2_Good.l0 k (wrap64 (x3 + 1)) x145000 x145001 x145002)) else (none)) else (some (x145002.toList != ([] : List UInt8)))
end
def hogsheadref2_Good.f (k : Nat) (a0_0 : ByteArray) (a0_1 : Int) (a0_2 : ByteArray) : Option (Bool) := (hogsheadref1_May.f k a0_0).bind fun t145 => (if t145 = true then (hogsheadref2_Good.j0 k (decide ((a0_2.size : Int) > 400)) a0_0 a0_1 a0_2) else (hogsheadref2_Good.j0 k true a0_0 a0_1 a0_2))
set_option maxHeartbeats 8000000 in
set_option maxRecDepth 100000 in
theorem hogsheadref2_Good.calls (k : Nat) (a0_0 : ByteArray) (a0_1 : Int) (a0_2 : ByteArray) (r : Bool) (w : World) (h : hogsheadref2_Good.f k a0_0 a0_1 a0_2 = some r) :
  Calls Tryz.prog 62 #[.agg #[.string a0_0, .int .i64 a0_1, .string a0_2]] w fun e w' => e = .returned (.bool r) ∧ Below w.heap.size w w' := by
 have hu47 := Tryz.underlying47
 have HB := Aside0.mk (Below.refl w.heap.size w)
 have H : ((hogsheadref1_May.f k a0_0).bind fun t145 => (if t145 = true then (hogsheadref2_Good.j0 k (decide ((a0_2.size : Int) > 400)) a0_0 a0_1 a0_2) else (hogsheadref2_Good.j0 k true a0_0 a0_1 a0_2))) = some r := h
 clear h
 have HC2 := Aside0.mk H
 clear H
 go_enter Tryz.func62, Tryz.ntmps62
 go_upto_region 1 with (first | ((with_reducible refine gate_dst (N := 1) rfl ?_); (try (refine gate_guard (by rfl) ?_; dsimp only)); refine box_event ?hg (N := 1) ?hd (cs := #[.string a0_0, .int .i64 a0_1, .string a0_2]) (t := 47) ?hr ?_; (case hd => rfl); (case hg => rfl); (case hr => first | (go_simp; done) | (go_simp; rfl)); intro gb144 hg w3 hbox hb; have n0_ := Aside0.mk (below_step (by repeat (first | (with_reducible first | exact HB.out | apply below_alloc | apply pw_below_drewN | apply below_drew1) | exact HB.out)) hb); have n1_ := Aside0.mk (hbox); have n2_ := Aside0.mk ((by rw [hg]; exact (below_size (by repeat (first | (with_reducible first | exact HB.out | apply below_alloc | apply pw_below_drewN | apply below_drew1) | exact HB.out))) : w.heap.size ≤ gb144)); have n3_ := Aside0.mk ((by rw [hg]; exact (below_size (by repeat (first | (with_reducible first | exact HB.out | apply below_alloc | apply pw_below_drewN | apply below_drew1) | exact HB.out))) : w.heap.size ≤ gb144)); clear HB; have HB := n0_; have BK144 := n1_; have GW144 := n2_; have GE144 := n3_; clear n0_ n1_ n2_ n3_; clear hb hbox hg))
 (try simp only [Act.put, List.setIfInBounds_toArray, List.set_cons_zero, List.set_cons_succ])
 go_cut [13] (fun v13 wc => ∃ (kq : Nat) (x13_1 : Bool), v13 = .bool x13_1 ∧ Aside0 (hogsheadref2_Good.j0 kq x13_1 a0_0 a0_1 a0_2 = some r) ∧ Aside0 (kq ≤ k) ∧ Aside0 (wc.heap[gb144]? = some (.cells #[.string a0_0, .int .i64 a0_1, .string a0_2] 47 (0, 0))) ∧ Aside0 (Below w.heap.size w wc))
 case first =>
  have H := HC2.out
  clear HC2
  replace H := Option.bind_eq_some_iff.mp H
  obtain ⟨t145, A40, H⟩ := H
  replace H : (if t145 = true then (hogsheadref2_Good.j0 k (decide ((a0_2.size : Int) > 400)) a0_0 a0_1 a0_2) else (hogsheadref2_Good.j0 k true a0_0 a0_1 a0_2)) = some r := H
  have A4 := Aside0.mk A40
  clear A40
  by_cases c5 : t145 = true
  ·subst c5
   have H1 : (hogsheadref2_Good.j0 k (decide ((a0_2.size : Int) > 400)) a0_0 a0_1 a0_2) = some r := by rw [if_pos rfl] at H; exact H
   clear H
   have H := H1
   clear H1
   have H' := Aside0.mk H
   clear H
   have hcz6_0 : w3.cell? ⟨gb144, 0, none⟩ = some (.string a0_0) := (blk_cell BK144.out 0).trans rfl
   have hcz6_1 : w3.cell? ⟨gb144, 1, none⟩ = some (.int .i64 a0_1) := (blk_cell BK144.out 1).trans rfl
   have hcz6_2 : w3.cell? ⟨gb144, 2, none⟩ = some (.string a0_2) := (blk_cell BK144.out 2).trans rfl
   have hfz6_0 := blk_frozen BK144.out 0
   have hfz6_1 := blk_frozen BK144.out 1
   have hfz6_2 := blk_frozen BK144.out 2
   go_wp2_with (first | ((with_reducible refine gate_callee (f := 80) rfl ?_); refine goesL_ (some 6) rfl rfl Tryz.func80 (by kernel_rfl) rfl #[.string a0_0] rfl (by (try simp only [List.map_toArray, List.map_cons, List.map_nil]); first | done | rfl | (simp only [List.length_drop, List.length_take]; rfl)) ?_; (with_reducible refine (hogsheadref1_May.calls k a0_0 true _ A4.out).mono ?_); rintro e w7 ⟨rfl, hb⟩; refine ⟨_, rfl, ?_⟩; have n0_ := Aside0.mk (blk_below (g := gb144) (o := .cells #[.string a0_0, .int .i64 a0_1, .string a0_2] 47 (0, 0)) (by (with_reducible repeat (first | refine blk_drewN ?_ _ | refine blk_drew ?_ | refine blk_alloc ?_ _)); exact BK144.out) hb); have n1_ := Aside0.mk (below_step (by repeat (first | (with_reducible first | exact HB.out | apply below_alloc | apply pw_below_drewN | apply below_drew1 | refine below_set ?_ GE144.out) | exact HB.out)) hb); clear BK144; clear HB; have BK144 := n0_; have HB := n1_; clear n0_ n1_; (try clear hb); (try clear hb2); (try clear hk); (try clear hi); have hcz8_0 : w7.cell? ⟨gb144, 0, none⟩ = some (.string a0_0) := (blk_cell BK144.out 0).trans rfl; have hcz8_1 : w7.cell? ⟨gb144, 1, none⟩ = some (.int .i64 a0_1) := (blk_cell BK144.out 1).trans rfl; have hcz8_2 : w7.cell? ⟨gb144, 2, none⟩ = some (.string a0_2) := (blk_cell BK144.out 2).trans rfl; have hfz8_0 := blk_frozen BK144.out 0; have hfz8_1 := blk_frozen BK144.out 1; have hfz8_2 := blk_frozen BK144.out 2))
   go_meet
   case rel => exact ⟨_, (decide ((a0_2.size : Int) > 400)), (by first | rfl | (simp; done) | (simp [*]; done) | exact congrArg Value.bool (nil_ne _) | exact congrArg Value.bool (nil_eq _) | exact congrArg Value.bool (nil_ne' _)), H', ⟨by first | omega | exact Nat.le_refl _⟩, ⟨by (with_reducible repeat (first | refine blk_drewN ?_ _ | refine blk_drew ?_ | refine blk_alloc ?_ _)); exact BK144.out⟩, ⟨by repeat (first | (with_reducible first | exact HB.out | apply below_alloc | apply pw_below_drewN | apply below_drew1 | refine below_set ?_ GE144.out) | exact HB.out)⟩⟩
  ·replace c5 := Bool.eq_false_iff.mpr c5
   subst c5
   have H1 : (hogsheadref2_Good.j0 k true a0_0 a0_1 a0_2) = some r := by rw [if_neg (show ¬ (false = true) by decide)] at H; exact H
   clear H
   have H := H1
   clear H1
   have H' := Aside0.mk H
   clear H
   have hcz9_0 : w3.cell? ⟨gb144, 0, none⟩ = some (.string a0_0) := (blk_cell BK144.out 0).trans rfl
   have hcz9_1 : w3.cell? ⟨gb144, 1, none⟩ = some (.int .i64 a0_1) := (blk_cell BK144.out 1).trans rfl
   have hcz9_2 : w3.cell? ⟨gb144, 2, none⟩ = some (.string a0_2) := (blk_cell BK144.out 2).trans rfl
   have hfz9_0 := blk_frozen BK144.out 0
   have hfz9_1 := blk_frozen BK144.out 1
   have hfz9_2 := blk_frozen BK144.out 2
   go_wp2_with (first | ((with_reducible refine gate_callee (f := 80) rfl ?_); refine goesL_ (some 6) rfl rfl Tryz.func80 (by kernel_rfl) rfl #[.string a0_0] rfl (by (try simp only [List.map_toArray, List.map_cons, List.map_nil]); first | done | rfl | (simp only [List.length_drop, List.length_take]; rfl)) ?_; (with_reducible refine (hogsheadref1_May.calls k a0_0 false _ A4.out).mono ?_); rintro e w10 ⟨rfl, hb⟩; refine ⟨_, rfl, ?_⟩; have n0_ := Aside0.mk (blk_below (g := gb144) (o := .cells #[.string a0_0, .int .i64 a0_1, .string a0_2] 47 (0, 0)) (by (with_reducible repeat (first | refine blk_drewN ?_ _ | refine blk_drew ?_ | refine blk_alloc ?_ _)); exact BK144.out) hb); have n1_ := Aside0.mk (below_step (by repeat (first | (with_reducible first | exact HB.out | apply below_alloc | apply pw_below_drewN | apply below_drew1 | refine below_set ?_ GE144.out) | exact HB.out)) hb); clear BK144; clear HB; have BK144 := n0_; have HB := n1_; clear n0_ n1_; (try clear hb); (try clear hb2); (try clear hk); (try clear hi)))
   go_meet
   case rel => exact ⟨_, (true), (by first | rfl | (simp; done) | (simp [*]; done) | exact congrArg Value.bool (nil_ne _) | exact congrArg Value.bool (nil_eq _) | exact congrArg Value.bool (nil_ne' _)), H', ⟨by first | omega | exact Nat.le_refl _⟩, ⟨by (with_reducible repeat (first | refine blk_drewN ?_ _ | refine blk_drew ?_ | refine blk_alloc ?_ _)); exact BK144.out⟩, ⟨by repeat (first | (with_reducible first | exact HB.out | apply below_alloc | apply pw_below_drewN | apply below_drew1 | refine below_set ?_ GE144.out) | exact HB.out)⟩⟩
 case rest =>
  clear HC2
  try clear p2
  try clear c5
  try clear c6
  try clear c8
  try clear hcz6_0
  try clear hcz6_1
  try clear hcz6_2
  try clear hcz8_0
  try clear hcz8_1
  try clear hcz8_2
  try clear hcz9_0
  try clear hcz9_1
  try clear hcz9_2
  try clear hfz6_0
  try clear hfz6_1
  try clear hfz6_2
  try clear hfz8_0
  try clear hfz8_1
  try clear hfz8_2
  try clear hfz9_0
  try clear hfz9_1
  try clear hfz9_2
  obtain ⟨kq, x13_1, rfl, HA, HJ1, BK144, HB⟩ := hcut
  cases kq with
  | zero => exact absurd HA.out (by simp [hogsheadref2_Good.j0])
  | succ kj1 =>
   have H := HA.out
   clear HA
   simp only [hogsheadref2_Good.j0] at H
   by_cases c11 : x13_1 = true
   ·subst c11
    have H1 : (some false) = some r := by rw [if_pos rfl] at H; exact H
    clear H
    have H := H1
    clear H1
    obtain rfl := Option.some.inj H
    go_wp2
    go_ret
    exact ⟨by first | rfl | (simp [errW_none, errW_some] <;> rfl) | (simp [*, errW_none, errW_some] <;> rfl), by repeat (first | (with_reducible first | exact HB.out | apply below_alloc | apply pw_below_drewN | apply below_drew1 | refine below_set ?_ GE144.out) | exact HB.out)⟩
   ·replace c11 := Bool.eq_false_iff.mpr c11
    subst c11
    have H1 : (if a0_1 = 1 then (some (a0_2.toList == ([] : List UInt8))) else (if a0_1 = 2 then (hogsheadref2_Good.j1 kj1 a0_1 (a0_1 == 2) a0_0 a0_1 a0_2) else (hogsheadref2_Good.j1 kj1 a0_1 (a0_1 == 3) a0_0 a0_1 a0_2))) = some r := by rw [if_neg (show ¬ (false = true) by decide)] at H; exact H
    clear H
    have H := H1
    clear H1
    by_cases c12 : a0_1 = 1
    ·rw [if_pos c12] at H
     have c12b0 : (a0_1 == 1) = true := beq_iff_eq.mpr c12
     have c12b1 : (a0_1 != 1) = false := bne_eq_false_iff_eq.mpr c12
     clear c12
     obtain rfl := Option.some.inj H
     have hcz13_0 : wc.cell? ⟨gb144, 0, none⟩ = some (.string a0_0) := (blk_cell BK144.out 0).trans rfl
     have hcz13_1 : wc.cell? ⟨gb144, 1, none⟩ = some (.int .i64 a0_1) := (blk_cell BK144.out 1).trans rfl
     have hcz13_2 : wc.cell? ⟨gb144, 2, none⟩ = some (.string a0_2) := (blk_cell BK144.out 2).trans rfl
     have hfz13_0 := blk_frozen BK144.out 0
     have hfz13_1 := blk_frozen BK144.out 1
     have hfz13_2 := blk_frozen BK144.out 2
     go_wp2
     go_ret
     exact ⟨by first | rfl | (simp [errW_none, errW_some] <;> rfl) | (simp [*, errW_none, errW_some] <;> rfl), by repeat (first | (with_reducible first | exact HB.out | apply below_alloc | apply pw_below_drewN | apply below_drew1 | refine below_set ?_ GE144.out) | exact HB.out)⟩
    ·rw [if_neg c12] at H
     have c12b0 : (a0_1 == 1) = false := beq_eq_false_iff_ne.mpr c12
     have c12b1 : (a0_1 != 1) = true := bne_iff_ne.mpr c12
     have HC14 := Aside0.mk H
     clear H
     have hcz15_0 : wc.cell? ⟨gb144, 0, none⟩ = some (.string a0_0) := (blk_cell BK144.out 0).trans rfl
     have hcz15_1 : wc.cell? ⟨gb144, 1, none⟩ = some (.int .i64 a0_1) := (blk_cell BK144.out 1).trans rfl
     have hcz15_2 : wc.cell? ⟨gb144, 2, none⟩ = some (.string a0_2) := (blk_cell BK144.out 2).trans rfl
     have hfz15_0 := blk_frozen BK144.out 0
     have hfz15_1 := blk_frozen BK144.out 1
     have hfz15_2 := blk_frozen BK144.out 2
     go_upto_if 21 with (fail)
     go_cut [21] (fun v21 wc => ∃ (kq : Nat) (x21_13 : Bool), v21 = .bool x21_13 ∧ Aside0 (hogsheadref2_Good.j1 kq a0_1 x21_13 a0_0 a0_1 a0_2 = some r) ∧ Aside0 (kq ≤ kj1) ∧ Aside0 (wc.heap[gb144]? = some (.cells #[.string a0_0, .int .i64 a0_1, .string a0_2] 47 (0, 0))) ∧ Aside0 (Below w.heap.size w wc))
     case first =>
      have H := HC14.out
      clear HC14
      by_cases c16 : a0_1 = 2
      ·rw [if_pos c16] at H
       have c16b0 : (a0_1 == 2) = true := beq_iff_eq.mpr c16
       have c16b1 : (a0_1 != 2) = false := bne_eq_false_iff_eq.mpr c16
       clear c16
       (first | rw [c16b0] | (simp only [i64_w, i32_w]; rw [c16b0]) | skip)
       have H' := Aside0.mk H
       clear H
       go_wp2
       go_meet
       case rel => exact ⟨_, ((a0_1 == 2)), (by first | rfl | (simp; done) | (simp [*]; done) | exact congrArg Value.bool (nil_ne _) | exact congrArg Value.bool (nil_eq _) | exact congrArg Value.bool (nil_ne' _)), H', ⟨by have := HJ1.out; first | omega | exact Nat.le_refl _⟩, ⟨by (with_reducible repeat (first | refine blk_drewN ?_ _ | refine blk_drew ?_ | refine blk_alloc ?_ _)); exact BK144.out⟩, ⟨by repeat (first | (with_reducible first | exact HB.out | apply below_alloc | apply pw_below_drewN | apply below_drew1 | refine below_set ?_ GE144.out) | exact HB.out)⟩⟩
      ·rw [if_neg c16] at H
       have c16b0 : (a0_1 == 2) = false := beq_eq_false_iff_ne.mpr c16
       have c16b1 : (a0_1 != 2) = true := bne_iff_ne.mpr c16
       (first | rw [c16b0] | (simp only [i64_w, i32_w]; rw [c16b0]) | skip)
       have H' := Aside0.mk H
       clear H
       go_wp2
       go_meet
       case rel => exact ⟨_, ((a0_1 == 3)), (by first | rfl | (simp; done) | (simp [*]; done) | exact congrArg Value.bool (nil_ne _) | exact congrArg Value.bool (nil_eq _) | exact congrArg Value.bool (nil_ne' _)), H', ⟨by have := HJ1.out; first | omega | exact Nat.le_refl _⟩, ⟨by (with_reducible repeat (first | refine blk_drewN ?_ _ | refine blk_drew ?_ | refine blk_alloc ?_ _)); exact BK144.out⟩, ⟨by repeat (first | (with_reducible first | exact HB.out | apply below_alloc | apply pw_below_drewN | apply below_drew1 | refine below_set ?_ GE144.out) | exact HB.out)⟩⟩
     case rest =>
      clear HC14
      try clear c1
      try clear p2
      try clear c5
      try clear c6
      try clear c8
      try clear c11
      try clear c12
      try clear c12b0
      try clear c12b1
      try clear c16
      try clear c16b0
      try clear c16b1
      try clear hcz13_0
      try clear hcz13_1
      try clear hcz13_2
      try clear hcz15_0
      try clear hcz15_1
      try clear hcz15_2
      try clear hcz6_0
      try clear hcz6_1
      try clear hcz6_2
      try clear hcz8_0
      try clear hcz8_1
      try clear hcz8_2
      try clear hcz9_0
      try clear hcz9_1
      try clear hcz9_2
      try clear hfz13_0
      try clear hfz13_1
      try clear hfz13_2
      try clear hfz15_0
      try clear hfz15_1
      try clear hfz15_2
      try clear hfz6_0
      try clear hfz6_1
      try clear hfz6_2
      try clear hfz8_0
      try clear hfz8_1
      try clear hfz8_2
      try clear hfz9_0
      try clear hfz9_1
      try clear hfz9_2
      try clear p2
      obtain ⟨kq, x21_13, rfl, HA, HJ13, BK144, HB⟩ := hcut
      cases kq with
      | zero => exact absurd HA.out (by simp [hogsheadref2_Good.j1])
      | succ kj13 =>
       have H := HA.out
       clear HA
       simp only [hogsheadref2_Good.j1] at H
       by_cases c17 : x21_13 = true
       ·subst c17
        have H1 : (some true) = some r := by rw [if_pos rfl] at H; exact H
        clear H
        have H := H1
        clear H1
        obtain rfl := Option.some.inj H
        go_wp2
        go_ret
        exact ⟨by first | rfl | (simp [errW_none, errW_some] <;> rfl) | (simp [*, errW_none, errW_some] <;> rfl), by repeat (first | (with_reducible first | exact HB.out | apply below_alloc | apply pw_below_drewN | apply below_drew1 | refine below_set ?_ GE144.out) | exact HB.out)⟩
       ·replace c17 := Bool.eq_false_iff.mpr c17
        subst c17
        have H1 : (if a0_1 = 4 then (hogsheadref2_Good.l0 kj13 0 a0_0 a0_1 a0_2) else (some false)) = some r := by rw [if_neg (show ¬ (false = true) by decide)] at H; exact H
        clear H
        have H := H1
        clear H1
        by_cases c18 : a0_1 = 4
        ·rw [if_pos c18] at H
         have c18b0 : (a0_1 == 4) = true := beq_iff_eq.mpr c18
         have c18b1 : (a0_1 != 4) = false := bne_eq_false_iff_eq.mpr c18
         clear c18
         have H' := Aside0.mk H
         clear H
         go_wp2
         go_loopg [3] kj13 (fun kq v3 w' => ∃ (x3_3 : Int), v3 = .int .i64 x3_3 ∧ Aside0 (hogsheadref2_Good.l0 kq x3_3 a0_0 a0_1 a0_2 = some r) ∧ Aside0 (kq ≤ kj13) ∧ Aside0 (w'.heap[gb144]? = some (.cells #[.string a0_0, .int .i64 a0_1, .string a0_2] 47 (0, 0))) ∧ Aside0 (Below w.heap.size w w'))
         case atStart => exact ⟨(0), (by first | rfl | (simp; done) | (simp [*]; done) | exact congrArg Value.bool (nil_ne _) | exact congrArg Value.bool (nil_eq _) | exact congrArg Value.bool (nil_ne' _)), H', ⟨Nat.le_refl _⟩, ⟨by (with_reducible repeat (first | refine blk_drewN ?_ _ | refine blk_drew ?_ | refine blk_alloc ?_ _)); exact BK144.out⟩, ⟨by repeat (first | (with_reducible first | exact HB.out | apply below_alloc | apply pw_below_drewN | apply below_drew1 | refine below_set ?_ GE144.out) | exact HB.out)⟩⟩
         case round =>
          clear H'
          try clear c1
          try clear p2
          try clear c5
          try clear c6
          try clear c8
          try clear c11
          try clear c12
          try clear c12b0
          try clear c12b1
          try clear c16
          try clear c16b0
          try clear c16b1
          try clear c17
          try clear c18
          try clear c18b0
          try clear c18b1
          try clear hcz13_0
          try clear hcz13_1
          try clear hcz13_2
          try clear hcz15_0
          try clear hcz15_1
          try clear hcz15_2
          try clear hcz6_0
          try clear hcz6_1
          try clear hcz6_2
          try clear hcz8_0
          try clear hcz8_1
          try clear hcz8_2
          try clear hcz9_0
          try clear hcz9_1
          try clear hcz9_2
          try clear hfz13_0
          try clear hfz13_1
          try clear hfz13_2
          try clear hfz15_0
          try clear hfz15_1
          try clear hfz15_2
          try clear hfz6_0
          try clear hfz6_1
          try clear hfz6_2
          try clear hfz8_0
          try clear hfz8_1
          try clear hfz8_2
          try clear hfz9_0
          try clear hfz9_1
          try clear hfz9_2
          try clear p2
          obtain ⟨x3_3, rfl, HA, HK3, BK144, HB⟩ := hrel
          cases gk with
          | zero => exact absurd HA.out (by simp [hogsheadref2_Good.l0])
          | succ k3 =>
           have H := HA.out
           clear HA
           simp only [hogsheadref2_Good.l0] at H
           by_cases c19 : x3_3 < (a0_2.size : Int)
           ·rw [if_pos c19] at H
            have c19b0 : decide (x3_3 < (a0_2.size : Int)) = true := decide_eq_true c19
            clear c19
            by_cases c20 : 0 ≤ x3_3
            ·rw [if_pos c20] at H
             have c20b0 : decide (0 ≤ x3_3) = true := decide_eq_true c20
             clear c20
             by_cases c22 : (bt a0_2 x3_3) = 0
             ·rw [if_pos c22] at H
              have c22b0 : ((bt a0_2 x3_3) == 0) = true := beq_iff_eq.mpr c22
              have c22b1 : ((bt a0_2 x3_3) != 0) = false := bne_eq_false_iff_eq.mpr c22
              clear c22
              obtain rfl := Option.some.inj H
              have hcz23_0 : wr.cell? ⟨gb144, 0, none⟩ = some (.string a0_0) := (blk_cell BK144.out 0).trans rfl
              have hcz23_1 : wr.cell? ⟨gb144, 1, none⟩ = some (.int .i64 a0_1) := (blk_cell BK144.out 1).trans rfl
              have hcz23_2 : wr.cell? ⟨gb144, 2, none⟩ = some (.string a0_2) := (blk_cell BK144.out 2).trans rfl
              have hfz23_0 := blk_frozen BK144.out 0
              have hfz23_1 := blk_frozen BK144.out 1
              have hfz23_2 := blk_frozen BK144.out 2
              have p21 : 0 ≤ (x3_3 : Int) := of_decide_eq_true (by first | (with_reducible assumption) | assumption)
              have q21 : x3_3 < (a0_2.size : Int) := of_decide_eq_true (by first | (with_reducible assumption) | assumption)
              have hx21 := bt_at a0_2 x3_3
              replace p21 := eq_true p21
              replace q21 := eq_true q21
              go_wp2
              go_ret
              exact ⟨by first | rfl | (simp [errW_none, errW_some] <;> rfl) | (simp [*, errW_none, errW_some] <;> rfl), by repeat (first | (with_reducible first | exact HB.out | apply below_alloc | apply pw_below_drewN | apply below_drew1 | refine below_set ?_ GE144.out) | exact HB.out)⟩
             ·rw [if_neg c22] at H
              have c22b0 : ((bt a0_2 x3_3) == 0) = false := beq_eq_false_iff_ne.mpr c22
              have c22b1 : ((bt a0_2 x3_3) != 0) = true := bne_iff_ne.mpr c22
              have H' := Aside0.mk H
              clear H
              have hcz24_0 : wr.cell? ⟨gb144, 0, none⟩ = some (.string a0_0) := (blk_cell BK144.out 0).trans rfl
              have hcz24_1 : wr.cell? ⟨gb144, 1, none⟩ = some (.int .i64 a0_1) := (blk_cell BK144.out 1).trans rfl
              have hcz24_2 : wr.cell? ⟨gb144, 2, none⟩ = some (.string a0_2) := (blk_cell BK144.out 2).trans rfl
              have hfz24_0 := blk_frozen BK144.out 0
              have hfz24_1 := blk_frozen BK144.out 1
              have hfz24_2 := blk_frozen BK144.out 2
              have p21 : 0 ≤ (x3_3 : Int) := of_decide_eq_true (by first | (with_reducible assumption) | assumption)
              have q21 : x3_3 < (a0_2.size : Int) := of_decide_eq_true (by first | (with_reducible assumption) | assumption)
              have hx21 := bt_at a0_2 x3_3
              replace p21 := eq_true p21
              replace q21 := eq_true q21
              go_wp2
              go_roundg k3
              case measure => have := HJ1.out; have := HJ13.out; have := HK3.out; omega
              case rel => exact ⟨(wrap64 (x3_3 + 1)), (by first | rfl | (simp; done) | (simp [*]; done) | exact congrArg Value.bool (nil_ne _) | exact congrArg Value.bool (nil_eq _) | exact congrArg Value.bool (nil_ne' _)), H', ⟨by have := HJ1.out; have := HJ13.out; have := HK3.out; omega⟩, ⟨by (with_reducible repeat (first | refine blk_drewN ?_ _ | refine blk_drew ?_ | refine blk_alloc ?_ _)); exact BK144.out⟩, ⟨by repeat (first | (with_reducible first | exact HB.out | apply below_alloc | apply pw_below_drewN | apply below_drew1 | refine below_set ?_ GE144.out) | exact HB.out)⟩⟩
            ·rw [if_neg c20] at H
             exact absurd H (by simp)
           ·rw [if_neg c19] at H
            have c19b0 : decide (x3_3 < (a0_2.size : Int)) = false := decide_eq_false c19
            clear c19
            obtain rfl := Option.some.inj H
            have hcz25_0 : wr.cell? ⟨gb144, 0, none⟩ = some (.string a0_0) := (blk_cell BK144.out 0).trans rfl
            have hcz25_1 : wr.cell? ⟨gb144, 1, none⟩ = some (.int .i64 a0_1) := (blk_cell BK144.out 1).trans rfl
            have hcz25_2 : wr.cell? ⟨gb144, 2, none⟩ = some (.string a0_2) := (blk_cell BK144.out 2).trans rfl
            have hfz25_0 := blk_frozen BK144.out 0
            have hfz25_1 := blk_frozen BK144.out 1
            have hfz25_2 := blk_frozen BK144.out 2
            go_wp2
            go_ret
            exact ⟨by first | rfl | (simp [errW_none, errW_some] <;> done) | (simp [errW_none, errW_some]; cases a0_2.toList <;> rfl) | (simp [*, errW_none, errW_some] <;> rfl), by repeat (first | (with_reducible first | exact HB.out | apply below_alloc | apply pw_below_drewN | apply below_drew1 | refine below_set ?_ GE144.out) | exact HB.out)⟩
        ·rw [if_neg c18] at H
         have c18b0 : (a0_1 == 4) = false := beq_eq_false_iff_ne.mpr c18
         have c18b1 : (a0_1 != 4) = true := bne_iff_ne.mpr c18
         obtain rfl := Option.some.inj H
         go_wp2
         go_ret
         exact ⟨by first | rfl | (simp [errW_none, errW_some] <;> rfl) | (simp [*, errW_none, errW_some] <;> rfl), by repeat (first | (with_reducible first | exact HB.out | apply below_alloc | apply pw_below_drewN | apply below_drew1 | refine below_set ?_ GE144.out) | exact HB.out)⟩
end Go.Proofs.YtdijnmcfpbceaaaGreatDoor.P

namespace Go.Proofs.YtdijnmcfpbceaaaGreatDoor.P
open Go.Proofs.YtdijnmcfpbceaaaGreatDoor.X
open Go.RowKit Go.Proofs.YtdijnmcfpbceaaaGreatDoorW.PrintWords Go.Proofs.YtdijnmcfpbceaaaGreatDoorW.PrintLast Go.Proofs.YtdijnmcfpbceaaaGreatDoorW.PrintMore
attribute [local go_sem] min2_int min_two
set_option linter.unusedVariables false
set_option linter.unusedSimpArgs false
def hogsheadref2_dir.l0 : Nat → List (S47) → ByteArray → Int → Option (Bool)
 | 0, _, _, _ => none
 | k + 1, x0, x1, x5 => if x5 < (x0.length : Int) then (if 0 ≤ x5 then (if ((rd_T47 x0 x5).f0).toList = x1.toList then (if ((rd_T47 x0 x5).f1) = 1 then (some true) else (hogsheadref2_dir.l0 k x0 x1 (wrap64 (x5 + 1)))) else (hogsheadref2_dir.l0 k x0 x1 (wrap64 (x5 + 1)))) else (none)) else (some false)
def hogsheadref2_dir.f (k : Nat) (l0 : List (S47)) (a1 : ByteArray) : Option (Bool) := hogsheadref2_dir.l0 k l0 a1 0
set_option maxHeartbeats 8000000 in
set_option maxRecDepth 100000 in
theorem hogsheadref2_dir.calls (k : Nat) (A0 : Option Addr) (c0 : Nat) (l0 : List (S47)) (a1 : ByteArray) (r : Bool) (w : World) (hr0 : Kd.C k47 w A0 l0.length l0) (hc0 : l0.length ≤ c0) (h : hogsheadref2_dir.f k l0 a1 = some r) :
  Calls Tryz.prog 64 #[.slice A0 l0.length c0, .string a1] w fun e w' => e = .returned (.bool r) ∧ Drawn0 w w' := by
 have HR0 := Aside0.mk hr0
 have HC0 := Aside0.mk hc0
 clear hr0 hc0
 have H : (hogsheadref2_dir.l0 k l0 a1 0) = some r := h
 clear h
 have H' := Aside0.mk H
 clear H
 go_enter Tryz.func64, Tryz.ntmps64
 go_wp2
 go_loopg [5] k (fun kq v5 w' => ∃ (x5_1 : Int), v5 = .int .i64 x5_1 ∧ Aside0 (hogsheadref2_dir.l0 kq l0 a1 x5_1 = some r) ∧ Aside0 (kq ≤ k) ∧ Drawn0 w w')
 case atStart => exact ⟨(0), (by first | rfl | (simp; done) | (simp [*]; done) | exact congrArg Value.bool (nil_ne _) | exact congrArg Value.bool (nil_eq _) | exact congrArg Value.bool (nil_ne' _)), H', ⟨Nat.le_refl _⟩, by repeat (first | exact Drawn0.refl _ | apply Drawn0.step)⟩
 case round =>
  clear H'
  try clear p2
  obtain ⟨x5_1, rfl, HA, HK1, ⟨m1, rfl⟩⟩ := hrel
  cases gk with
  | zero => exact absurd HA.out (by simp [hogsheadref2_dir.l0])
  | succ k1 =>
   have H := HA.out
   clear HA
   simp only [hogsheadref2_dir.l0] at H
   by_cases c3 : x5_1 < (l0.length : Int)
   ·rw [if_pos c3] at H
    have c3b0 : decide (x5_1 < (l0.length : Int)) = true := decide_eq_true c3
    clear c3
    by_cases c4 : 0 ≤ x5_1
    ·rw [if_pos c4] at H
     have c4b0 : decide (0 ≤ x5_1) = true := decide_eq_true c4
     clear c4
     by_cases c5 : ((rd_T47 l0 x5_1).f0).toList = a1.toList
     ·rw [if_pos c5] at H
      have c5b0 : (((rd_T47 l0 x5_1).f0).toList == a1.toList) = true := beq_iff_eq.mpr c5
      have c5b1 : (((rd_T47 l0 x5_1).f0).toList != a1.toList) = false := bne_eq_false_iff_eq.mpr c5
      clear c5
      by_cases c6 : ((rd_T47 l0 x5_1).f1) = 1
      ·rw [if_pos c6] at H
       have c6b0 : (((rd_T47 l0 x5_1).f1) == 1) = true := beq_iff_eq.mpr c6
       have c6b1 : (((rd_T47 l0 x5_1).f1) != 1) = false := bne_eq_false_iff_eq.mpr c6
       clear c6
       obtain rfl := Option.some.inj H
       have p146 : 0 ≤ (x5_1 : Int) := of_decide_eq_true (by first | (with_reducible assumption) | assumption)
       have q146 : x5_1 < (l0.length : Int) := of_decide_eq_true (by first | (with_reducible assumption) | assumption)
       obtain ⟨ad146, e146, hx146_0, hx146_1, hx146_2⟩ := at_T47 HR0.out x5_1 p146 q146
       cases e146
       replace p146 := eq_true p146
       replace q146 := eq_true q146
       have p147 : 0 ≤ (x5_1 : Int) := of_decide_eq_true (by first | (with_reducible assumption) | assumption)
       have q147 : x5_1 < (l0.length : Int) := of_decide_eq_true (by first | (with_reducible assumption) | assumption)
       obtain ⟨ad147, e147, hx147_0, hx147_1, hx147_2⟩ := at_T47 HR0.out x5_1 p147 q147
       obtain rfl : ad146 = ad147 := (by injection e147)
       replace p147 := eq_true p147
       replace q147 := eq_true q147
       go_wp2
       go_ret
       exact ⟨by first | rfl | (simp; done) | (simp [*]; done), by repeat (first | exact Drawn0.refl _ | apply Drawn0.step)⟩
      ·rw [if_neg c6] at H
       have c6b0 : (((rd_T47 l0 x5_1).f1) == 1) = false := beq_eq_false_iff_ne.mpr c6
       have c6b1 : (((rd_T47 l0 x5_1).f1) != 1) = true := bne_iff_ne.mpr c6
       have H' := Aside0.mk H
       clear H
       have p146 : 0 ≤ (x5_1 : Int) := of_decide_eq_true (by first | (with_reducible assumption) | assumption)
       have q146 : x5_1 < (l0.length : Int) := of_decide_eq_true (by first | (with_reducible assumption) | assumption)
       obtain ⟨ad146, e146, hx146_0, hx146_1, hx146_2⟩ := at_T47 HR0.out x5_1 p146 q146
       cases e146
       replace p146 := eq_true p146
       replace q146 := eq_true q146
       have p147 : 0 ≤ (x5_1 : Int) := of_decide_eq_true (by first | (with_reducible assumption) | assumption)
       have q147 : x5_1 < (l0.length : Int) := of_decide_eq_true (by first | (with_reducible assumption) | assumption)
       obtain ⟨ad147, e147, hx147_0, hx147_1, hx147_2⟩ := at_T47 HR0.out x5_1 p147 q147
       obtain rfl : ad146 = ad147 := (by injection e147)
       replace p147 := eq_true p147
       replace q147 := eq_true q147
       go_wp2
       go_roundg k1
       case measure => have := HK1.out; omega
       case rel => exact ⟨(wrap64 (x5_1 + 1)), (by first | rfl | (simp; done) | (simp [*]; done) | exact congrArg Value.bool (nil_ne _) | exact congrArg Value.bool (nil_eq _) | exact congrArg Value.bool (nil_ne' _)), H', ⟨by have := HK1.out; omega⟩, by repeat (first | exact Drawn0.refl _ | apply Drawn0.step)⟩
     ·rw [if_neg c5] at H
      have c5b0 : (((rd_T47 l0 x5_1).f0).toList == a1.toList) = false := beq_eq_false_iff_ne.mpr c5
      have c5b1 : (((rd_T47 l0 x5_1).f0).toList != a1.toList) = true := bne_iff_ne.mpr c5
      have H' := Aside0.mk H
      clear H
      have p146 : 0 ≤ (x5_1 : Int) := of_decide_eq_true (by first | (with_reducible assumption) | assumption)
      have q146 : x5_1 < (l0.length : Int) := of_decide_eq_true (by first | (with_reducible assumption) | assumption)
      obtain ⟨ad146, e146, hx146_0, hx146_1, hx146_2⟩ := at_T47 HR0.out x5_1 p146 q146
      cases e146
      replace p146 := eq_true p146
      replace q146 := eq_true q146
      go_wp2
      go_roundg k1
      case measure => have := HK1.out; omega
      case rel => exact ⟨(wrap64 (x5_1 + 1)), (by first | rfl | (simp; done) | (simp [*]; done) | exact congrArg Value.bool (nil_ne _) | exact congrArg Value.bool (nil_eq _) | exact congrArg Value.bool (nil_ne' _)), H', ⟨by have := HK1.out; omega⟩, by repeat (first | exact Drawn0.refl _ | apply Drawn0.step)⟩
    ·rw [if_neg c4] at H
     exact absurd H (by simp)
   ·rw [if_neg c3] at H
    have c3b0 : decide (x5_1 < (l0.length : Int)) = false := decide_eq_false c3
    clear c3
    obtain rfl := Option.some.inj H
    go_wp2
    go_ret
    exact ⟨by first | rfl | (simp; done) | (simp [*]; done), by repeat (first | exact Drawn0.refl _ | apply Drawn0.step)⟩
end Go.Proofs.YtdijnmcfpbceaaaGreatDoor.P

namespace Go.Proofs.YtdijnmcfpbceaaaGreatDoor.X
open Go.RowKit Go.Proofs.YtdijnmcfpbceaaaGreatDoorW.PrintWords Go.Proofs.YtdijnmcfpbceaaaGreatDoorW.PrintLast Go.Proofs.YtdijnmcfpbceaaaGreatDoorW.PrintMore Go.Proofs.YtdijnmcfpbceaaaGreatDoor.P
set_option linter.unusedVariables false
set_option linter.unusedSimpArgs false
theorem good_l0 (a : ByteArray) (b : Int) (s : ByteArray) (hn : s.size ≤ 9223372036854775807) : ∀ (d i : Nat), s.size - i = d → i ≤ s.size → Ev (fun k => hogsheadref2_Good.l0 k (i : Int) a b s) (decide ((0 : UInt8) ∉ s.data.toList.drop i) && decide (s.size ≠ 0)) := by
  intro d
  induction d with
  | zero =>
    intro i hd hi
    refine ⟨1, fun k hk => ?_⟩
    obtain ⟨k, rfl⟩ : ∃ m, k = m + 1 := ⟨k - 1, by omega⟩
    simp only [hogsheadref2_Good.l0]
    rw [if_neg (by omega), List.drop_eq_nil_of_le (by rw [data_length]; omega), ByteArray.toList_eq]
    congr 1
    have hl := data_length s
    generalize s.data.toList = l at *
    rw [← hl]
    cases l with
    | nil => rfl
    | cons c l => simp
  | succ d ih =>
    intro i hd hi
    have hlt : i < s.size := by omega
    obtain ⟨K, hK⟩ := ih (i + 1) (by omega) (by omega)
    refine ⟨K + 1, fun k hk => ?_⟩
    obtain ⟨k, rfl⟩ : ∃ m, k = m + 1 := ⟨k - 1, by omega⟩
    have hK := hK k (by omega)
    simp only at hK
    simp only [hogsheadref2_Good.l0]
    rw [if_pos (by omega), if_pos (by omega), bt_nat s i hlt, drop_data s i hlt]
    generalize s.data.toList[i]'(by rw [data_length]; exact hlt) = c at *
    by_cases h2 : c = 0
    · subst h2
      rw [if_pos (by rfl)]
      simp
    · have h2n : ¬ ((c.toNat : Nat) : Int) = 0 := fun e => h2 (UInt8.toNat_inj.1 (by show c.toNat = 0; omega))
      rw [if_neg h2n, wrap_i i s.size hlt hn, hK]
      have e2 : decide ((0 : UInt8) ∉ c :: s.data.toList.drop (i + 1)) = decide ((0 : UInt8) ∉ s.data.toList.drop (i + 1)) := by
        rw [decide_eq_decide, List.mem_cons]
        exact ⟨fun h x => h (.inr x), fun h x => x.elim (fun e => h2 e.symm) h⟩
      rw [e2]
theorem refGood_eq (n : S47) (h0 : n.f0.size ≤ 100000) (h2 : n.f2.size ≤ 100000) : Ev (fun k => hogsheadref2_Good.f k n.f0 n.f1 n.f2) (goodN n) := by
  obtain ⟨K1, h1⟩ := refPath_eq n.f0 h0
  obtain ⟨K2, h2'⟩ := good_l0 n.f0 n.f1 n.f2 (by omega) _ 0 rfl (Nat.zero_le _)
  refine ⟨K1 + K2 + 3, fun k hk => ?_⟩
  obtain ⟨k, rfl⟩ : ∃ m, k = m + 2 := ⟨k - 2, by omega⟩
  have h1 := h1 (k + 2) (by omega)
  have h2' := h2' k (by omega)
  simp only [List.drop_zero] at h1 h2'
  show hogsheadref2_Good.f (k + 2) n.f0 n.f1 n.f2 = _
  unfold hogsheadref2_Good.f goodN
  rw [h1, Option.bind_some]
  cases hp : pathB n.f0.data.toList with
  | false =>
    rw [if_neg (by decide)]
    simp only [hogsheadref2_Good.j0]
    rw [if_pos trivial]
    rfl
  | true =>
    rw [if_pos rfl]
    simp only [hogsheadref2_Good.j0]
    by_cases h4 : n.f2.size ≤ 400
    · rw [if_neg (by rw [decide_eq_true_eq]; omega), decide_eq_true h4]
      simp only [Bool.true_and]
      by_cases k1 : n.f1 = 1
      · rw [if_pos k1, if_pos k1, ByteArray.toList_eq]
        congr 1
        have hl := data_length n.f2
        generalize n.f2.data.toList = l at *
        rw [← hl]
        cases l with
        | nil => rfl
        | cons c l => simp
      · rw [if_neg k1, if_neg k1]
        simp only [hogsheadref2_Good.j1]
        by_cases k2 : n.f1 = 2
        · rw [if_pos k2, if_pos (by rw [k2]; rfl), if_pos (.inl k2)]
        · rw [if_neg k2]
          by_cases k3 : n.f1 = 3
          · rw [if_pos (by rw [k3]; rfl), if_pos (.inr k3)]
          · have e3 : ¬ (n.f1 == 3) = true := fun e => k3 (by simpa using e)
            rw [if_neg e3, if_neg (show ¬ (n.f1 = 2 ∨ n.f1 = 3) from fun x => x.elim k2 k3)]
            by_cases k4 : n.f1 = 4
            · rw [if_pos k4, if_pos k4]
              have h2'' : hogsheadref2_Good.l0 k 0 n.f0 n.f1 n.f2 = _ := h2'
              rw [h2'', Bool.and_comm]
            · rw [if_neg k4, if_neg k4]
    · rw [if_pos (by rw [decide_eq_true_eq]; omega), decide_eq_false h4]
      rfl
theorem dir_l0 (l : List S47) (p : ByteArray) (hn : l.length ≤ 1000000) : ∀ (d i : Nat), l.length - i = d → i ≤ l.length → Ev (fun k => hogsheadref2_dir.l0 k l p (i : Int)) (dirAt (l.drop i) p) := by
  intro d
  induction d with
  | zero =>
    intro i hd hi
    refine ⟨1, fun k hk => ?_⟩
    obtain ⟨k, rfl⟩ : ∃ m, k = m + 1 := ⟨k - 1, by omega⟩
    simp only [hogsheadref2_dir.l0]
    rw [if_neg (by omega), List.drop_eq_nil_of_le (by omega)]
    rfl
  | succ d ih =>
    intro i hd hi
    have hlt : i < l.length := by omega
    obtain ⟨K, hK⟩ := ih (i + 1) (by omega) (by omega)
    refine ⟨K + 1, fun k hk => ?_⟩
    obtain ⟨k, rfl⟩ : ∃ m, k = m + 1 := ⟨k - 1, by omega⟩
    have hK := hK k (by omega)
    simp only at hK
    simp only [hogsheadref2_dir.l0]
    rw [if_pos (by omega), if_pos (by omega), rdN_get l i hlt, wrap_i i l.length hlt (by omega), hK, List.drop_eq_getElem_cons hlt]
    unfold dirAt
    rw [List.any_cons]
    by_cases e0 : l[i].f0 = p
    · rw [if_pos (toList_inj.2 e0), decide_eq_true e0, Bool.true_and]
      by_cases e1 : l[i].f1 = 1
      · rw [if_pos e1, decide_eq_true e1]
        rfl
      · rw [if_neg e1, decide_eq_false e1]
        rfl
    · rw [if_neg (fun x => e0 (toList_inj.1 x)), decide_eq_false e0]
      rfl
theorem dir_eq (l : List S47) (p : ByteArray) (hn : l.length ≤ 1000000) : Ev (fun k => hogsheadref2_dir.f k l p) (dirAt l p) := by
  have := dir_l0 l p hn _ 0 rfl (Nat.zero_le _)
  exact this
end Go.Proofs.YtdijnmcfpbceaaaGreatDoor.X

namespace Go.Proofs.YtdijnmcfpbceaaaGreatDoor.X
open Go.RowKit Go.Proofs.YtdijnmcfpbceaaaGreatDoorW.PrintWords Go.Proofs.YtdijnmcfpbceaaaGreatDoorW.PrintLast Go.Proofs.YtdijnmcfpbceaaaGreatDoorW.PrintMore Go.Proofs.YtdijnmcfpbceaaaGreatDoor.P
set_option linter.unusedVariables false
set_option linter.unusedSimpArgs false
set_option maxHeartbeats 8000000 in
set_option maxRecDepth 100000 in
theorem refBad_calls (A0 : Option Addr) (c0 : Nat) (t : List S47) (w : World) (hC : Kd.C k47 w A0 t.length t) (hc : t.length ≤ c0) (hn : t.length ≤ 100000) (hs : ∀ n ∈ t, n.f0.size ≤ 100000 ∧ n.f2.size ≤ 100000) :
    Calls Tryz.prog 45 #[.slice A0 t.length c0] w fun e w' => ∃ r : Int, e = .returned (.int .i64 r) ∧ decide (r < 0) = treeB t ∧ Below w.heap.size w w' := by
  have X := Aside0.mk hC
  have HS := Aside0.mk hs
  clear hC hs
  go_enter Tryz.func45, Tryz.ntmps45
  by_cases h0 : t.length = 0
  · have ht : t = [] := List.eq_nil_of_length_eq_zero h0
    have h00 : ((t.length : Int) == 0) = true := by rw [h0]; rfl
    have HF := Aside0.mk (show treeB t = false from by rw [ht]; rfl)
    clear ht
    go_wp2_with fail
    go_ret
    exact ⟨0, rfl, by rw [HF.out]; rfl, Below.refl _ _⟩
  · have h00 : ((t.length : Int) == 0) = false := beq_eq_false_iff_ne.2 (by omega)
    have HB0 := Aside0.mk (Below.refl w.heap.size w)
    have HT0 := Aside0.mk (show treeB t = treeR (t.take 0) (t.drop 0) from by unfold treeB; cases t with | nil => exact absurd rfl h0 | cons a l => simp)
    have hpos : 0 < t.length := by omega
    have hposd : decide (0 < t.length) = true := decide_eq_true hpos
    have hposi : decide ((0 : Int) < (t.length : Int)) = true := decide_eq_true (by omega)
    go_wp2_with fail
    go_loopw [3] (fun v3 wr => ∃ (i : Nat), v3 = .int .i64 i ∧ i ≤ t.length ∧ Aside0 (treeB t = treeR (t.take i) (t.drop i)) ∧ Aside0 (Below w.heap.size w wr)) (fun a _ => t.length - (intOf a).toNat)
    case atStart => exact ⟨0, rfl, by omega, HT0, HB0⟩
    case round =>
      clear HT0 HB0
      obtain ⟨i, rfl, hi, HT, HB⟩ := hrel
      by_cases hil : i < t.length
      · have hic : decide ((i : Int) < (t.length : Int)) = true := decide_eq_true (by omega)
        have hi0 : 0 ≤ (i : Int) := by omega
        obtain ⟨ad, rfl, z0, z1, z2⟩ := at_T47 (Kd.C_below X.out HB.out) (i : Int) (by omega) (by omega)
        simp only [Int.toNat_natCast] at z0 z1 z2
        have HX := Aside0.mk (rdN_get t i hil)
        have HZ := Aside0.mk (HS.out t[i] (List.getElem_mem _))
        rw [← HX.out] at HZ
        generalize hx : rd_T47 t (i : Int) = x at *
        have HTR := Aside0.mk (HT.out.trans (treeR_step t i hil))
        rw [← HX.out] at HTR
        clear HT
        obtain ⟨b400, h400⟩ : ∃ b, decide ((i : Int) ≥ 400) = b := ⟨_, rfl⟩
        have h400b : decide ((400 : Int) ≤ (i : Int)) = b400 := h400
        obtain ⟨bg, hbg⟩ : ∃ b, goodN x = b := ⟨_, rfl⟩
        have HGood := Aside0.mk (show ∀ W, Calls Tryz.prog 62 #[.agg #[.string x.f0, .int .i64 x.f1, .string x.f2]] W (fun e w' => e = .returned (.bool bg) ∧ Below W.heap.size W w') from fun W => by
          obtain ⟨K, hK⟩ := refGood_eq x HZ.out.1 HZ.out.2
          exact hogsheadref2_Good.calls K x.f0 x.f1 x.f2 bg W (by rw [← hbg]; exact hK K (Nat.le_refl _)))
        rw [hbg] at HTR
        have HBG := Aside0.mk hbg
        clear hbg
        have HK0 := Aside0.mk z0
        have HK1 := Aside0.mk z1
        have HK2 := Aside0.mk z2
        cases b400 with
        | true =>
          have HF := Aside0.mk (show treeB t = false from by
            have : ¬ i < 400 := by have := of_decide_eq_true h400; omega
            rw [HTR.out, decide_eq_false this]
            rfl)
          go_wp2_with fail
          try go_quiet (fail)
          go_wp2_with fail
          go_ret
          exact ⟨i, rfl, by rw [HF.out]; exact decide_eq_false (by omega), HB.out⟩
        | false =>
          have hi400 : i < 400 := by have := of_decide_eq_false h400; omega
          go_wp2_with fail
          refine (HGood.out wr).mono ?_
          rintro e w1 ⟨rfl, hb1⟩
          have HB1 := Aside0.mk (below_step HB.out hb1)
          have z0 := pw_cell_below hb1 HK0.out
          have z1 := pw_cell_below hb1 HK1.out
          have z2 := pw_cell_below hb1 HK2.out
          clear HK0 HK1 HK2 HB hb1 h400 h400b
          have HK0 := Aside0.mk z0
          cases bg with
          | false =>
            have HF := Aside0.mk (show treeB t = false from by rw [HTR.out, Bool.and_false, Bool.false_and, Bool.false_and])
            go_wp2_with fail
            go_ret
            exact ⟨i, rfl, by rw [HF.out]; exact decide_eq_false (by omega), HB1.out⟩
          | true =>
            have HTS := Aside0.mk (HTR.out.trans (by rw [decide_eq_true hi400, Bool.true_and, Bool.true_and]))
            clear HTR
            by_cases hiz : i = 0
            · subst hiz
              have hq : ((0 : Int) == 0) = true := rfl
              have hq2 : (((0 : Nat) : Int) == 0) = true := rfl
              have y0 := z0
              (try rw [show 0 * 3 = 0 from rfl] at y0)
              (try rw [Addr.add_zero'] at y0)
              have hfo : followsN (t.take 0) x = decide (x.f0.size = 0) := rfl
              rw [hfo] at HTS
              obtain ⟨be, hbe⟩ : ∃ b, (x.f0.toList != ([] : List UInt8)) = b := ⟨_, rfl⟩
              have hbe2 : (x.f0.toList == ([] : List UInt8)) = !be := by rw [← hbe, bne, Bool.not_not]
              have HE := Aside0.mk (show decide (x.f0.size = 0) = !be from by
                rw [← hbe2, ByteArray.toList_eq, ← data_length]
                generalize x.f0.data.toList = l
                cases l with
                | nil => rfl
                | cons c l => simp)
              cases be with
              | true =>
                have HF := Aside0.mk (show treeB t = false from by rw [HTS.out, HE.out]; rfl)
                go_wp2_with fail
                go_ret
                exact ⟨0, rfl, by rw [HF.out]; rfl, HB1.out⟩
              | false =>
                have HF := Aside0.mk (show treeB t = treeR (t.take 1) (t.drop 1) from by rw [HTS.out, HE.out]; rfl)
                go_wp2_with fail
                exact ⟨⟨1, rfl, by omega, HF, HB1⟩, by simp [intOf]; omega⟩
            · have hq2 : ((i : Int) == 0) = false := beq_eq_false_iff_ne.2 (by omega)
              obtain ⟨pa, ok, hpo⟩ : ∃ pa ok, (if x.f0.data.toList ≠ [] ∧ pathB x.f0.data.toList = true then (upS x.f0, true) else ((⟨#[]⟩ : ByteArray), false)) = (pa, ok) := ⟨_, _, rfl⟩
              have HPar := Aside0.mk (show ∀ W, Calls Tryz.prog 63 #[.string x.f0] W (fun e w' => e = .returned (.tuple #[.string pa, .bool ok]) ∧ Below W.heap.size W w') from fun W => by
                obtain ⟨K, hK⟩ := refParent_eq x.f0 HZ.out.1
                exact hogsheadref1_Parent.calls K x.f0 pa ok W (by rw [← hpo]; exact hK K (Nat.le_refl _)))
              have HPO := Aside0.mk hpo
              clear hpo
              go_wp2_with fail
              refine (HPar.out w1).mono ?_
              rintro e w2 ⟨rfl, hb2⟩
              have HB2 := Aside0.mk (below_step HB1.out hb2)
              clear HB1 hb2 z0 z1 z2 HK0
              obtain ⟨ad', e', z0, z1, z2⟩ := at_T47 (Kd.C_below X.out HB2.out) (i : Int) (by omega) (by omega)
              cases e'
              simp only [Int.toNat_natCast] at z0 z1 z2
              rw [hx] at z0
              obtain ⟨ad', e', v0, v1, v2⟩ := at_T47 (Kd.C_below X.out HB2.out) ((i - 1 : Nat) : Int) (by omega) (by omega)
              cases e'
              simp only [Int.toNat_natCast] at v0 v1 v2
              have hwp : wrap64 ((i : Int) - 1) = ((i - 1 : Nat) : Int) := by unfold wrap64; omega
              have HY := Aside0.mk (rdN_get t (i - 1) (by omega))
              generalize hy : rd_T47 t ((i - 1 : Nat) : Int) = y at *
              go_wp2_with fail
              have HZ0 := Aside0.mk z0
              have HV0 := Aside0.mk v0
              have HDir := Aside0.mk (show ∃ b, b = dirAt (t.take i) pa ∧ ∀ W, Below w.heap.size w W → Calls Tryz.prog 64 #[.slice (some ad) i c0, .string pa] W (fun e w' => e = .returned (.bool b) ∧ Below W.heap.size W w') from ⟨_, rfl, fun W hW => by
                obtain ⟨K, hK⟩ := dir_eq (t.take i) pa (by rw [List.length_take]; omega)
                have hlen : (t.take i).length = i := by rw [List.length_take]; omega
                have hcall := hogsheadref2_dir.calls K (some ad) c0 (t.take i) pa _ W (Kd.C_take (Kd.C_below X.out hW) (by omega)) (by omega) (hK K (Nat.le_refl _))
                rw [hlen] at hcall
                exact hcall.mono (by rintro e W' ⟨rfl, hd⟩; exact ⟨rfl, hd.below⟩)⟩)
              obtain ⟨bd, hbd, hdir⟩ := HDir.out
              clear HDir
              have HDir := Aside0.mk hdir
              have HBD := Aside0.mk hbd
              clear hdir hbd
              have hlast : (t.take i).getLast? = some t[i - 1] := by
                rw [List.getLast?_eq_getElem?, List.length_take, List.getElem?_take, Nat.min_eq_left (by omega), if_pos (by omega), List.getElem?_eq_getElem (by omega)]
              have hpath : pathB x.f0.data.toList = true := by
                have hg := HBG.out
                unfold goodN at hg
                rw [Bool.and_eq_true, Bool.and_eq_true] at hg
                exact hg.1.1
              have HFO := Aside0.mk (show followsN (t.take i) x = (decide (x.f0.size ≠ 0) && ltB y.f0 x.f0 && dirAt (t.take i) (upS x.f0)) from by
                unfold followsN
                rw [hlast, hpath, Bool.and_true, ← HY.out])
              rw [HFO.out] at HTS
              clear HFO hlast
              have hnz : (x.f0.data.toList ≠ ([] : List UInt8)) ↔ x.f0.size ≠ 0 := by
                rw [← data_length]
                exact not_congr List.length_eq_zero_iff.symm
              obtain ⟨bl, hcmp⟩ : ∃ b, Op.bytesLess y.f0.toList x.f0.toList = b := ⟨_, rfl⟩
              have hlt : ltB y.f0 x.f0 = bl := hcmp
              rw [hlt] at HTS
              have hwi : IntKind.i64.wrap ((i : Int) - 1) = ((i - 1 : Nat) : Int) := (i64_w _).trans hwp
              have hj0 : 0 ≤ ((i - 1 : Nat) : Int) := by omega
              have hj1 : ((i - 1 : Nat) : Int) < (t.length : Int) := by omega
              have hj2 : i - 1 < t.length := by omega
              have hicn : i ≤ c0 := by omega
              have hicc : decide ((i : Int) ≤ (c0 : Int)) = true := decide_eq_true (by omega)
              have hicl : decide ((i : Int) ≤ (t.length : Int)) = true := decide_eq_true (by omega)
              have hjd : decide ((0 : Int) ≤ ((i - 1 : Nat) : Int)) = true := decide_eq_true hj0
              have hjd1 : decide (((i - 1 : Nat) : Int) < (t.length : Int)) = true := decide_eq_true hj1
              have hjd2 : decide (i - 1 < t.length) = true := decide_eq_true hj2
              clear z0 z1 z2 v0 v1 v2 hlt
              have HP := Aside0.mk hpath
              have HNZ := Aside0.mk hnz
              clear hpath hnz
              cases bl with
              | false =>
                have HF := Aside0.mk (show treeB t = false from by rw [HTS.out, Bool.and_false, Bool.false_and, Bool.false_and])
                clear HTS
                have HLE := Aside0.mk (show Op.bytesLess x.f0.toList y.f0.toList = true ∨ x.f0.toList = y.f0.toList from by
                  cases hq : Op.bytesLess x.f0.toList y.f0.toList with
                  | true => exact .inl rfl
                  | false => exact .inr (blt_total _ _ hq hcmp))
                refine start_ (n := 24) (S := fun w' => Below w2.heap.size w2 w') (ds := []) (bmG 24 0) (by kernel_rfl) rfl (by kernel_rfl) (below_drew1 (Below.refl _ _)) (fun hS => ?_)
                generalize w2.drew = wd at hS ⊢
                refine pure_ (i := 0) (N := some 42) (v := ?_) (a' := ?_) (bmG 24 1) rfl rfl (by kernel_rfl) (fun _ _ _ h => h) (Or.inl ⟨by rfl, ?_⟩) ?_ ?_
                rotate_left
                · intro w'
                  go_simp
                  (try simp only [hwi, hcmp])
                  with_reducible rfl
                rotate_left
                · simp only [Act.put, List.setIfInBounds_toArray, List.set_cons_zero, List.set_cons_succ, i64_w, i32_w]
                  rfl
                refine pure_ (i := 1) (N := some 43) (v := ?_) (a' := ?_) (bmG 24 3) rfl rfl (by kernel_rfl) (fun _ _ _ h => h) (Or.inl ⟨by rfl, ?_⟩) ?_ ?_
                rotate_left
                · intro w'
                  go_simp
                  (try simp only [hwi, hcmp])
                  with_reducible rfl
                rotate_left
                · simp only [Act.put, List.setIfInBounds_toArray, List.set_cons_zero, List.set_cons_succ, i64_w, i32_w]
                  rfl
                refine pure_ (i := 2) (N := some 44) (v := ?_) (a' := ?_) (bmG 24 7) rfl rfl (by kernel_rfl) (fun _ _ _ h => h) (Or.inl ⟨by rfl, ?_⟩) ?_ ?_
                rotate_left
                · intro w'
                  go_simp
                  (try simp only [hwi, hcmp])
                  with_reducible rfl
                rotate_left
                · simp only [Act.put, List.setIfInBounds_toArray, List.set_cons_zero, List.set_cons_succ, i64_w, i32_w]
                  rfl
                refine pure_ (i := 3) (N := some 45) (v := ?_) (a' := ?_) (bmG 24 15) rfl rfl (by kernel_rfl) (fun _ _ _ h => h) (Or.inl ⟨by rfl, ?_⟩) ?_ ?_
                rotate_left
                · intro w'
                  go_simp
                  (try simp only [hwi, hcmp])
                  with_reducible rfl
                rotate_left
                · simp only [Act.put, List.setIfInBounds_toArray, List.set_cons_zero, List.set_cons_succ, i64_w, i32_w]
                  rfl
                refine take_ (i := 4) (N := some 46) (v := ?_) (a' := ?_) (bmG 24 31) rfl rfl (by kernel_rfl) (fun _ _ _ h => h) (Or.inl ⟨by rfl, ?_⟩) hS ?_ ?_
                rotate_left
                · intro w' hS
                  have s0 := pw_cell_below hS HZ0.out
                  have s1 := pw_cell_below hS HV0.out
                  go_simp
                  with_reducible rfl
                rotate_left
                · simp only [Act.put, List.setIfInBounds_toArray, List.set_cons_zero, List.set_cons_succ, i64_w, i32_w]
                  rfl
                refine pure_ (i := 5) (N := some 47) (v := ?_) (a' := ?_) (bmG 24 63) rfl rfl (by kernel_rfl) (fun _ _ _ h => h) (Or.inl ⟨by rfl, ?_⟩) ?_ ?_
                rotate_left
                · intro w'
                  go_simp
                  (try simp only [hwi, hcmp])
                  with_reducible rfl
                rotate_left
                · simp only [Act.put, List.setIfInBounds_toArray, List.set_cons_zero, List.set_cons_succ, i64_w, i32_w]
                  rfl
                refine pure_ (i := 6) (N := some 48) (v := ?_) (a' := ?_) (bmG 24 127) rfl rfl (by kernel_rfl) (fun _ _ _ h => h) (Or.inl ⟨by rfl, ?_⟩) ?_ ?_
                rotate_left
                · intro w'
                  go_simp
                  (try simp only [hwi, hcmp])
                  with_reducible rfl
                rotate_left
                · simp only [Act.put, List.setIfInBounds_toArray, List.set_cons_zero, List.set_cons_succ, i64_w, i32_w]
                  rfl
                refine pure_ (i := 7) (N := some 49) (v := .int .i64 ((i - 1 : Nat) : Int)) (a' := ?_) (bmG 24 255) rfl rfl (by kernel_rfl) (fun _ _ _ h => h) (Or.inl ⟨by rfl, ?_⟩) ?_ ?_
                · intro w'
                  go_simp
                  (try simp only [hwi, hcmp])
                  (try rfl)
                rotate_left
                · simp only [Act.put, List.setIfInBounds_toArray, List.set_cons_zero, List.set_cons_succ, i64_w, i32_w]
                  rfl
                refine pure_ (i := 8) (N := some 50) (v := ?_) (a' := ?_) (bmG 24 511) rfl rfl (by kernel_rfl) (fun _ _ _ h => h) (Or.inl ⟨by rfl, ?_⟩) ?_ ?_
                rotate_left
                · intro w'
                  go_simp
                  (try simp only [hwi, hcmp])
                  with_reducible rfl
                rotate_left
                · simp only [Act.put, List.setIfInBounds_toArray, List.set_cons_zero, List.set_cons_succ, i64_w, i32_w]
                  rfl
                refine pure_ (i := 9) (N := some 51) (v := ?_) (a' := ?_) (bmG 24 1023) rfl rfl (by kernel_rfl) (fun _ _ _ h => h) (Or.inl ⟨by rfl, ?_⟩) ?_ ?_
                rotate_left
                · intro w'
                  go_simp
                  (try simp only [hwi, hcmp])
                  with_reducible rfl
                rotate_left
                · simp only [Act.put, List.setIfInBounds_toArray, List.set_cons_zero, List.set_cons_succ, i64_w, i32_w]
                  rfl
                refine take_ (i := 10) (N := some 52) (v := ?_) (a' := ?_) (bmG 24 2047) rfl rfl (by kernel_rfl) (fun _ _ _ h => h) (Or.inl ⟨by rfl, ?_⟩) hS ?_ ?_
                rotate_left
                · intro w' hS
                  have s0 := pw_cell_below hS HZ0.out
                  have s1 := pw_cell_below hS HV0.out
                  go_simp
                  with_reducible rfl
                rotate_left
                · simp only [Act.put, List.setIfInBounds_toArray, List.set_cons_zero, List.set_cons_succ, i64_w, i32_w]
                  rfl
                refine pure_ (i := 11) (N := some 53) (v := .bool true) (a' := ?_) (bmG 24 4095) rfl rfl (by kernel_rfl) (fun _ _ _ h => h) (Or.inl ⟨by rfl, ?_⟩) ?_ ?_
                · intro w'
                  go_simp
                  (try simp only [hwi, hcmp])
                  exact HLE.out
                  (try rfl)
                rotate_left
                · simp only [Act.put, List.setIfInBounds_toArray, List.set_cons_zero, List.set_cons_succ, i64_w, i32_w]
                  rfl
                refine pure_ (i := 12) (N := some 54) (v := ?_) (a' := ?_) (bmG 24 8191) rfl rfl (by kernel_rfl) (fun _ _ _ h => h) (Or.inl ⟨by rfl, ?_⟩) ?_ ?_
                rotate_left
                · intro w'
                  go_simp
                  (try simp only [hwi, hcmp])
                  with_reducible rfl
                rotate_left
                · simp only [Act.put, List.setIfInBounds_toArray, List.set_cons_zero, List.set_cons_succ, i64_w, i32_w]
                  rfl
                refine pure_ (i := 13) (N := some 55) (v := undef) (a' := ?_) (bmG 24 16383) rfl rfl (by kernel_rfl) (fun _ _ _ h => h) (Or.inr ⟨by rfl, rfl⟩) ?_ ?_
                rotate_left
                · simp only [Act.put, List.setIfInBounds_toArray, List.set_cons_zero, List.set_cons_succ, i64_w, i32_w]
                  rfl
                refine pure_ (i := 14) (N := some 56) (v := undef) (a' := ?_) (bmG 24 32767) rfl rfl (by kernel_rfl) (fun _ _ _ h => h) (Or.inr ⟨by rfl, rfl⟩) ?_ ?_
                rotate_left
                · simp only [Act.put, List.setIfInBounds_toArray, List.set_cons_zero, List.set_cons_succ, i64_w, i32_w]
                  rfl
                refine pure_ (i := 15) (N := some 57) (v := ?_) (a' := ?_) (bmG 24 65535) rfl rfl (by kernel_rfl) (fun _ _ _ h => h) (Or.inl ⟨by rfl, ?_⟩) ?_ ?_
                rotate_left
                · intro w'
                  go_simp
                  (try simp only [hwi, hcmp])
                  with_reducible rfl
                rotate_left
                · simp only [Act.put, List.setIfInBounds_toArray, List.set_cons_zero, List.set_cons_succ, i64_w, i32_w]
                  rfl
                refine pure_ (i := 16) (N := some 58) (v := ?_) (a' := ?_) (bmG 24 131071) rfl rfl (by kernel_rfl) (fun _ _ _ h => h) (Or.inl ⟨by rfl, ?_⟩) ?_ ?_
                rotate_left
                · intro w'
                  go_simp
                  (try simp only [hwi, hcmp])
                  with_reducible rfl
                rotate_left
                · simp only [Act.put, List.setIfInBounds_toArray, List.set_cons_zero, List.set_cons_succ, i64_w, i32_w]
                  rfl
                refine pure_ (i := 17) (N := some 59) (v := undef) (a' := ?_) (bmG 24 262143) rfl rfl (by kernel_rfl) (fun _ _ _ h => h) (Or.inr ⟨by rfl, rfl⟩) ?_ ?_
                rotate_left
                · simp only [Act.put, List.setIfInBounds_toArray, List.set_cons_zero, List.set_cons_succ, i64_w, i32_w]
                  rfl
                refine pure_ (i := 18) (N := some 60) (v := undef) (a' := ?_) (bmG 24 524287) rfl rfl (by kernel_rfl) (fun _ _ _ h => h) (Or.inr ⟨by rfl, rfl⟩) ?_ ?_
                rotate_left
                · simp only [Act.put, List.setIfInBounds_toArray, List.set_cons_zero, List.set_cons_succ, i64_w, i32_w]
                  rfl
                refine pure_ (i := 19) (N := some 61) (v := undef) (a' := ?_) (bmG 24 1048575) rfl rfl (by kernel_rfl) (fun _ _ _ h => h) (Or.inr ⟨by rfl, rfl⟩) ?_ ?_
                rotate_left
                · simp only [Act.put, List.setIfInBounds_toArray, List.set_cons_zero, List.set_cons_succ, i64_w, i32_w]
                  rfl
                refine pure_ (i := 20) (N := some 62) (v := undef) (a' := ?_) (bmG 24 2097151) rfl rfl (by kernel_rfl) (fun _ _ _ h => h) (Or.inr ⟨by rfl, rfl⟩) ?_ ?_
                rotate_left
                · simp only [Act.put, List.setIfInBounds_toArray, List.set_cons_zero, List.set_cons_succ, i64_w, i32_w]
                  rfl
                refine pure_ (i := 21) (N := some 63) (v := undef) (a' := ?_) (bmG 24 4194303) rfl rfl (by kernel_rfl) (fun _ _ _ h => h) (Or.inr ⟨by rfl, rfl⟩) ?_ ?_
                rotate_left
                · simp only [Act.put, List.setIfInBounds_toArray, List.set_cons_zero, List.set_cons_succ, i64_w, i32_w]
                  rfl
                refine pure_ (i := 22) (N := some 64) (v := undef) (a' := ?_) (bmG 24 8388607) rfl rfl (by kernel_rfl) (fun _ _ _ h => h) (Or.inr ⟨by rfl, rfl⟩) ?_ ?_
                rotate_left
                · simp only [Act.put, List.setIfInBounds_toArray, List.set_cons_zero, List.set_cons_succ, i64_w, i32_w]
                  rfl
                refine pure_ (i := 23) (N := some 65) (v := ?_) (a' := ?_) (bmG 24 16777215) rfl rfl (by kernel_rfl) (fun _ _ _ h => h) (Or.inl ⟨by rfl, ?_⟩) ?_ ?_
                rotate_left
                · intro w'
                  go_simp
                  (try simp only [hwi, hcmp])
                  with_reducible rfl
                rotate_left
                · simp only [Act.put, List.setIfInBounds_toArray, List.set_cons_zero, List.set_cons_succ, i64_w, i32_w]
                  rfl
                refine done_ (by kernel_rfl) ?_
                go_wp2_with fail
                go_ret
                exact ⟨i, rfl, by rw [HF.out]; exact decide_eq_false (by omega), below_step HB2.out hS⟩
              | true =>
                have HLE := Aside0.mk (show Op.bytesLess x.f0.toList y.f0.toList = false ∧ ¬ x.f0.toList = y.f0.toList from by
                  refine ⟨?_, fun e => ?_⟩
                  · cases hq : Op.bytesLess x.f0.toList y.f0.toList with
                    | false => rfl
                    | true =>
                      have := blt_trans _ _ _ hcmp hq
                      rw [blt_irrefl] at this
                      cases this
                  · rw [e, blt_irrefl] at hcmp
                    cases hcmp)
                cases ok with
                | false =>
                  have HF := Aside0.mk (show treeB t = false from by
                    have h := HPO.out
                    by_cases hz : x.f0.size = 0
                    · rw [HTS.out, decide_eq_false (fun x => x hz)]
                      rfl
                    · rw [if_pos ⟨HNZ.out.2 hz, HP.out⟩] at h
                      cases h)
                  clear HTS
                  refine start_ (n := 24) (S := fun w' => Below w2.heap.size w2 w') (ds := []) (bmG 24 0) (by kernel_rfl) rfl (by kernel_rfl) (below_drew1 (Below.refl _ _)) (fun hS => ?_)
                  generalize w2.drew = wd at hS ⊢
                  refine pure_ (i := 0) (N := some 42) (v := ?_) (a' := ?_) (bmG 24 1) rfl rfl (by kernel_rfl) (fun _ _ _ h => h) (Or.inl ⟨by rfl, ?_⟩) ?_ ?_
                  rotate_left
                  · intro w'
                    go_simp
                    (try simp only [hwi, hcmp])
                    with_reducible rfl
                  rotate_left
                  · simp only [Act.put, List.setIfInBounds_toArray, List.set_cons_zero, List.set_cons_succ, i64_w, i32_w]
                    rfl
                  refine pure_ (i := 1) (N := some 43) (v := ?_) (a' := ?_) (bmG 24 3) rfl rfl (by kernel_rfl) (fun _ _ _ h => h) (Or.inl ⟨by rfl, ?_⟩) ?_ ?_
                  rotate_left
                  · intro w'
                    go_simp
                    (try simp only [hwi, hcmp])
                    with_reducible rfl
                  rotate_left
                  · simp only [Act.put, List.setIfInBounds_toArray, List.set_cons_zero, List.set_cons_succ, i64_w, i32_w]
                    rfl
                  refine pure_ (i := 2) (N := some 44) (v := ?_) (a' := ?_) (bmG 24 7) rfl rfl (by kernel_rfl) (fun _ _ _ h => h) (Or.inl ⟨by rfl, ?_⟩) ?_ ?_
                  rotate_left
                  · intro w'
                    go_simp
                    (try simp only [hwi, hcmp])
                    with_reducible rfl
                  rotate_left
                  · simp only [Act.put, List.setIfInBounds_toArray, List.set_cons_zero, List.set_cons_succ, i64_w, i32_w]
                    rfl
                  refine pure_ (i := 3) (N := some 45) (v := ?_) (a' := ?_) (bmG 24 15) rfl rfl (by kernel_rfl) (fun _ _ _ h => h) (Or.inl ⟨by rfl, ?_⟩) ?_ ?_
                  rotate_left
                  · intro w'
                    go_simp
                    (try simp only [hwi, hcmp])
                    with_reducible rfl
                  rotate_left
                  · simp only [Act.put, List.setIfInBounds_toArray, List.set_cons_zero, List.set_cons_succ, i64_w, i32_w]
                    rfl
                  refine take_ (i := 4) (N := some 46) (v := ?_) (a' := ?_) (bmG 24 31) rfl rfl (by kernel_rfl) (fun _ _ _ h => h) (Or.inl ⟨by rfl, ?_⟩) hS ?_ ?_
                  rotate_left
                  · intro w' hS
                    have s0 := pw_cell_below hS HZ0.out
                    have s1 := pw_cell_below hS HV0.out
                    go_simp
                    with_reducible rfl
                  rotate_left
                  · simp only [Act.put, List.setIfInBounds_toArray, List.set_cons_zero, List.set_cons_succ, i64_w, i32_w]
                    rfl
                  refine pure_ (i := 5) (N := some 47) (v := ?_) (a' := ?_) (bmG 24 63) rfl rfl (by kernel_rfl) (fun _ _ _ h => h) (Or.inl ⟨by rfl, ?_⟩) ?_ ?_
                  rotate_left
                  · intro w'
                    go_simp
                    (try simp only [hwi, hcmp])
                    with_reducible rfl
                  rotate_left
                  · simp only [Act.put, List.setIfInBounds_toArray, List.set_cons_zero, List.set_cons_succ, i64_w, i32_w]
                    rfl
                  refine pure_ (i := 6) (N := some 48) (v := ?_) (a' := ?_) (bmG 24 127) rfl rfl (by kernel_rfl) (fun _ _ _ h => h) (Or.inl ⟨by rfl, ?_⟩) ?_ ?_
                  rotate_left
                  · intro w'
                    go_simp
                    (try simp only [hwi, hcmp])
                    with_reducible rfl
                  rotate_left
                  · simp only [Act.put, List.setIfInBounds_toArray, List.set_cons_zero, List.set_cons_succ, i64_w, i32_w]
                    rfl
                  refine pure_ (i := 7) (N := some 49) (v := .int .i64 ((i - 1 : Nat) : Int)) (a' := ?_) (bmG 24 255) rfl rfl (by kernel_rfl) (fun _ _ _ h => h) (Or.inl ⟨by rfl, ?_⟩) ?_ ?_
                  · intro w'
                    go_simp
                    (try simp only [hwi, hcmp])
                    (try rfl)
                  rotate_left
                  · simp only [Act.put, List.setIfInBounds_toArray, List.set_cons_zero, List.set_cons_succ, i64_w, i32_w]
                    rfl
                  refine pure_ (i := 8) (N := some 50) (v := ?_) (a' := ?_) (bmG 24 511) rfl rfl (by kernel_rfl) (fun _ _ _ h => h) (Or.inl ⟨by rfl, ?_⟩) ?_ ?_
                  rotate_left
                  · intro w'
                    go_simp
                    (try simp only [hwi, hcmp])
                    with_reducible rfl
                  rotate_left
                  · simp only [Act.put, List.setIfInBounds_toArray, List.set_cons_zero, List.set_cons_succ, i64_w, i32_w]
                    rfl
                  refine pure_ (i := 9) (N := some 51) (v := ?_) (a' := ?_) (bmG 24 1023) rfl rfl (by kernel_rfl) (fun _ _ _ h => h) (Or.inl ⟨by rfl, ?_⟩) ?_ ?_
                  rotate_left
                  · intro w'
                    go_simp
                    (try simp only [hwi, hcmp])
                    with_reducible rfl
                  rotate_left
                  · simp only [Act.put, List.setIfInBounds_toArray, List.set_cons_zero, List.set_cons_succ, i64_w, i32_w]
                    rfl
                  refine take_ (i := 10) (N := some 52) (v := ?_) (a' := ?_) (bmG 24 2047) rfl rfl (by kernel_rfl) (fun _ _ _ h => h) (Or.inl ⟨by rfl, ?_⟩) hS ?_ ?_
                  rotate_left
                  · intro w' hS
                    have s0 := pw_cell_below hS HZ0.out
                    have s1 := pw_cell_below hS HV0.out
                    go_simp
                    with_reducible rfl
                  rotate_left
                  · simp only [Act.put, List.setIfInBounds_toArray, List.set_cons_zero, List.set_cons_succ, i64_w, i32_w]
                    rfl
                  refine pure_ (i := 11) (N := some 53) (v := .bool false) (a' := ?_) (bmG 24 4095) rfl rfl (by kernel_rfl) (fun _ _ _ h => h) (Or.inl ⟨by rfl, ?_⟩) ?_ ?_
                  · intro w'
                    go_simp
                    (try simp only [hwi, hcmp])
                    exact HLE.out
                    (try rfl)
                  rotate_left
                  · simp only [Act.put, List.setIfInBounds_toArray, List.set_cons_zero, List.set_cons_succ, i64_w, i32_w]
                    rfl
                  refine pure_ (i := 12) (N := some 54) (v := ?_) (a' := ?_) (bmG 24 8191) rfl rfl (by kernel_rfl) (fun _ _ _ h => h) (Or.inl ⟨by rfl, ?_⟩) ?_ ?_
                  rotate_left
                  · intro w'
                    go_simp
                    (try simp only [hwi, hcmp])
                    with_reducible rfl
                  rotate_left
                  · simp only [Act.put, List.setIfInBounds_toArray, List.set_cons_zero, List.set_cons_succ, i64_w, i32_w]
                    rfl
                  refine pure_ (i := 13) (N := some 55) (v := ?_) (a' := ?_) (bmG 24 16383) rfl rfl (by kernel_rfl) (fun _ _ _ h => h) (Or.inl ⟨by rfl, ?_⟩) ?_ ?_
                  rotate_left
                  · intro w'
                    go_simp
                    (try simp only [hwi, hcmp])
                    with_reducible rfl
                  rotate_left
                  · simp only [Act.put, List.setIfInBounds_toArray, List.set_cons_zero, List.set_cons_succ, i64_w, i32_w]
                    rfl
                  refine pure_ (i := 14) (N := some 56) (v := ?_) (a' := ?_) (bmG 24 32767) rfl rfl (by kernel_rfl) (fun _ _ _ h => h) (Or.inl ⟨by rfl, ?_⟩) ?_ ?_
                  rotate_left
                  · intro w'
                    go_simp
                    (try simp only [hwi, hcmp])
                    with_reducible rfl
                  rotate_left
                  · simp only [Act.put, List.setIfInBounds_toArray, List.set_cons_zero, List.set_cons_succ, i64_w, i32_w]
                    rfl
                  refine pure_ (i := 15) (N := some 57) (v := ?_) (a' := ?_) (bmG 24 65535) rfl rfl (by kernel_rfl) (fun _ _ _ h => h) (Or.inl ⟨by rfl, ?_⟩) ?_ ?_
                  rotate_left
                  · intro w'
                    go_simp
                    (try simp only [hwi, hcmp])
                    with_reducible rfl
                  rotate_left
                  · simp only [Act.put, List.setIfInBounds_toArray, List.set_cons_zero, List.set_cons_succ, i64_w, i32_w]
                    rfl
                  refine pure_ (i := 16) (N := some 58) (v := ?_) (a' := ?_) (bmG 24 131071) rfl rfl (by kernel_rfl) (fun _ _ _ h => h) (Or.inl ⟨by rfl, ?_⟩) ?_ ?_
                  rotate_left
                  · intro w'
                    go_simp
                    (try simp only [hwi, hcmp])
                    with_reducible rfl
                  rotate_left
                  · simp only [Act.put, List.setIfInBounds_toArray, List.set_cons_zero, List.set_cons_succ, i64_w, i32_w]
                    rfl
                  refine pure_ (i := 17) (N := some 59) (v := undef) (a' := ?_) (bmG 24 262143) rfl rfl (by kernel_rfl) (fun _ _ _ h => h) (Or.inr ⟨by rfl, rfl⟩) ?_ ?_
                  rotate_left
                  · simp only [Act.put, List.setIfInBounds_toArray, List.set_cons_zero, List.set_cons_succ, i64_w, i32_w]
                    rfl
                  refine pure_ (i := 18) (N := some 60) (v := undef) (a' := ?_) (bmG 24 524287) rfl rfl (by kernel_rfl) (fun _ _ _ h => h) (Or.inr ⟨by rfl, rfl⟩) ?_ ?_
                  rotate_left
                  · simp only [Act.put, List.setIfInBounds_toArray, List.set_cons_zero, List.set_cons_succ, i64_w, i32_w]
                    rfl
                  refine pure_ (i := 19) (N := some 61) (v := undef) (a' := ?_) (bmG 24 1048575) rfl rfl (by kernel_rfl) (fun _ _ _ h => h) (Or.inr ⟨by rfl, rfl⟩) ?_ ?_
                  rotate_left
                  · simp only [Act.put, List.setIfInBounds_toArray, List.set_cons_zero, List.set_cons_succ, i64_w, i32_w]
                    rfl
                  refine pure_ (i := 20) (N := some 62) (v := undef) (a' := ?_) (bmG 24 2097151) rfl rfl (by kernel_rfl) (fun _ _ _ h => h) (Or.inr ⟨by rfl, rfl⟩) ?_ ?_
                  rotate_left
                  · simp only [Act.put, List.setIfInBounds_toArray, List.set_cons_zero, List.set_cons_succ, i64_w, i32_w]
                    rfl
                  refine pure_ (i := 21) (N := some 63) (v := undef) (a' := ?_) (bmG 24 4194303) rfl rfl (by kernel_rfl) (fun _ _ _ h => h) (Or.inr ⟨by rfl, rfl⟩) ?_ ?_
                  rotate_left
                  · simp only [Act.put, List.setIfInBounds_toArray, List.set_cons_zero, List.set_cons_succ, i64_w, i32_w]
                    rfl
                  refine pure_ (i := 22) (N := some 64) (v := undef) (a' := ?_) (bmG 24 8388607) rfl rfl (by kernel_rfl) (fun _ _ _ h => h) (Or.inr ⟨by rfl, rfl⟩) ?_ ?_
                  rotate_left
                  · simp only [Act.put, List.setIfInBounds_toArray, List.set_cons_zero, List.set_cons_succ, i64_w, i32_w]
                    rfl
                  refine pure_ (i := 23) (N := some 65) (v := ?_) (a' := ?_) (bmG 24 16777215) rfl rfl (by kernel_rfl) (fun _ _ _ h => h) (Or.inl ⟨by rfl, ?_⟩) ?_ ?_
                  rotate_left
                  · intro w'
                    go_simp
                    (try simp only [hwi, hcmp])
                    with_reducible rfl
                  rotate_left
                  · simp only [Act.put, List.setIfInBounds_toArray, List.set_cons_zero, List.set_cons_succ, i64_w, i32_w]
                    rfl
                  refine done_ (by kernel_rfl) ?_
                  go_wp2_with fail
                  go_ret
                  exact ⟨i, rfl, by rw [HF.out]; exact decide_eq_false (by omega), below_step HB2.out hS⟩
                | true =>
                  have HF := Aside0.mk (show treeB t = (bd && treeR (t.take (i + 1)) (t.drop (i + 1))) from by
                    have h := HPO.out
                    by_cases hz : x.f0.size = 0
                    · rw [if_neg (fun q => HNZ.out.1 q.1 hz)] at h
                      cases h
                    · rw [if_pos ⟨HNZ.out.2 hz, HP.out⟩] at h
                      injection h with h1 h2
                      rw [HTS.out, decide_eq_true (show x.f0.size ≠ 0 from hz), h1, ← HBD.out]
                      rfl)
                  clear HTS
                  refine start_ (n := 24) (S := fun w' => Below w2.heap.size w2 w') (ds := []) (bmG 24 0) (by kernel_rfl) rfl (by kernel_rfl) (below_drew1 (Below.refl _ _)) (fun hS => ?_)
                  generalize w2.drew = wd at hS ⊢
                  refine pure_ (i := 0) (N := some 42) (v := ?_) (a' := ?_) (bmG 24 1) rfl rfl (by kernel_rfl) (fun _ _ _ h => h) (Or.inl ⟨by rfl, ?_⟩) ?_ ?_
                  rotate_left
                  · intro w'
                    go_simp
                    (try simp only [hwi, hcmp])
                    with_reducible rfl
                  rotate_left
                  · simp only [Act.put, List.setIfInBounds_toArray, List.set_cons_zero, List.set_cons_succ, i64_w, i32_w]
                    rfl
                  refine pure_ (i := 1) (N := some 43) (v := ?_) (a' := ?_) (bmG 24 3) rfl rfl (by kernel_rfl) (fun _ _ _ h => h) (Or.inl ⟨by rfl, ?_⟩) ?_ ?_
                  rotate_left
                  · intro w'
                    go_simp
                    (try simp only [hwi, hcmp])
                    with_reducible rfl
                  rotate_left
                  · simp only [Act.put, List.setIfInBounds_toArray, List.set_cons_zero, List.set_cons_succ, i64_w, i32_w]
                    rfl
                  refine pure_ (i := 2) (N := some 44) (v := ?_) (a' := ?_) (bmG 24 7) rfl rfl (by kernel_rfl) (fun _ _ _ h => h) (Or.inl ⟨by rfl, ?_⟩) ?_ ?_
                  rotate_left
                  · intro w'
                    go_simp
                    (try simp only [hwi, hcmp])
                    with_reducible rfl
                  rotate_left
                  · simp only [Act.put, List.setIfInBounds_toArray, List.set_cons_zero, List.set_cons_succ, i64_w, i32_w]
                    rfl
                  refine pure_ (i := 3) (N := some 45) (v := ?_) (a' := ?_) (bmG 24 15) rfl rfl (by kernel_rfl) (fun _ _ _ h => h) (Or.inl ⟨by rfl, ?_⟩) ?_ ?_
                  rotate_left
                  · intro w'
                    go_simp
                    (try simp only [hwi, hcmp])
                    with_reducible rfl
                  rotate_left
                  · simp only [Act.put, List.setIfInBounds_toArray, List.set_cons_zero, List.set_cons_succ, i64_w, i32_w]
                    rfl
                  refine take_ (i := 4) (N := some 46) (v := ?_) (a' := ?_) (bmG 24 31) rfl rfl (by kernel_rfl) (fun _ _ _ h => h) (Or.inl ⟨by rfl, ?_⟩) hS ?_ ?_
                  rotate_left
                  · intro w' hS
                    have s0 := pw_cell_below hS HZ0.out
                    have s1 := pw_cell_below hS HV0.out
                    go_simp
                    with_reducible rfl
                  rotate_left
                  · simp only [Act.put, List.setIfInBounds_toArray, List.set_cons_zero, List.set_cons_succ, i64_w, i32_w]
                    rfl
                  refine pure_ (i := 5) (N := some 47) (v := ?_) (a' := ?_) (bmG 24 63) rfl rfl (by kernel_rfl) (fun _ _ _ h => h) (Or.inl ⟨by rfl, ?_⟩) ?_ ?_
                  rotate_left
                  · intro w'
                    go_simp
                    (try simp only [hwi, hcmp])
                    with_reducible rfl
                  rotate_left
                  · simp only [Act.put, List.setIfInBounds_toArray, List.set_cons_zero, List.set_cons_succ, i64_w, i32_w]
                    rfl
                  refine pure_ (i := 6) (N := some 48) (v := ?_) (a' := ?_) (bmG 24 127) rfl rfl (by kernel_rfl) (fun _ _ _ h => h) (Or.inl ⟨by rfl, ?_⟩) ?_ ?_
                  rotate_left
                  · intro w'
                    go_simp
                    (try simp only [hwi, hcmp])
                    with_reducible rfl
                  rotate_left
                  · simp only [Act.put, List.setIfInBounds_toArray, List.set_cons_zero, List.set_cons_succ, i64_w, i32_w]
                    rfl
                  refine pure_ (i := 7) (N := some 49) (v := .int .i64 ((i - 1 : Nat) : Int)) (a' := ?_) (bmG 24 255) rfl rfl (by kernel_rfl) (fun _ _ _ h => h) (Or.inl ⟨by rfl, ?_⟩) ?_ ?_
                  · intro w'
                    go_simp
                    (try simp only [hwi, hcmp])
                    (try rfl)
                  rotate_left
                  · simp only [Act.put, List.setIfInBounds_toArray, List.set_cons_zero, List.set_cons_succ, i64_w, i32_w]
                    rfl
                  refine pure_ (i := 8) (N := some 50) (v := ?_) (a' := ?_) (bmG 24 511) rfl rfl (by kernel_rfl) (fun _ _ _ h => h) (Or.inl ⟨by rfl, ?_⟩) ?_ ?_
                  rotate_left
                  · intro w'
                    go_simp
                    (try simp only [hwi, hcmp])
                    with_reducible rfl
                  rotate_left
                  · simp only [Act.put, List.setIfInBounds_toArray, List.set_cons_zero, List.set_cons_succ, i64_w, i32_w]
                    rfl
                  refine pure_ (i := 9) (N := some 51) (v := ?_) (a' := ?_) (bmG 24 1023) rfl rfl (by kernel_rfl) (fun _ _ _ h => h) (Or.inl ⟨by rfl, ?_⟩) ?_ ?_
                  rotate_left
                  · intro w'
                    go_simp
                    (try simp only [hwi, hcmp])
                    with_reducible rfl
                  rotate_left
                  · simp only [Act.put, List.setIfInBounds_toArray, List.set_cons_zero, List.set_cons_succ, i64_w, i32_w]
                    rfl
                  refine take_ (i := 10) (N := some 52) (v := ?_) (a' := ?_) (bmG 24 2047) rfl rfl (by kernel_rfl) (fun _ _ _ h => h) (Or.inl ⟨by rfl, ?_⟩) hS ?_ ?_
                  rotate_left
                  · intro w' hS
                    have s0 := pw_cell_below hS HZ0.out
                    have s1 := pw_cell_below hS HV0.out
                    go_simp
                    with_reducible rfl
                  rotate_left
                  · simp only [Act.put, List.setIfInBounds_toArray, List.set_cons_zero, List.set_cons_succ, i64_w, i32_w]
                    rfl
                  refine pure_ (i := 11) (N := some 53) (v := .bool false) (a' := ?_) (bmG 24 4095) rfl rfl (by kernel_rfl) (fun _ _ _ h => h) (Or.inl ⟨by rfl, ?_⟩) ?_ ?_
                  · intro w'
                    go_simp
                    (try simp only [hwi, hcmp])
                    exact HLE.out
                    (try rfl)
                  rotate_left
                  · simp only [Act.put, List.setIfInBounds_toArray, List.set_cons_zero, List.set_cons_succ, i64_w, i32_w]
                    rfl
                  refine pure_ (i := 12) (N := some 54) (v := ?_) (a' := ?_) (bmG 24 8191) rfl rfl (by kernel_rfl) (fun _ _ _ h => h) (Or.inl ⟨by rfl, ?_⟩) ?_ ?_
                  rotate_left
                  · intro w'
                    go_simp
                    (try simp only [hwi, hcmp])
                    with_reducible rfl
                  rotate_left
                  · simp only [Act.put, List.setIfInBounds_toArray, List.set_cons_zero, List.set_cons_succ, i64_w, i32_w]
                    rfl
                  refine pure_ (i := 13) (N := some 55) (v := ?_) (a' := ?_) (bmG 24 16383) rfl rfl (by kernel_rfl) (fun _ _ _ h => h) (Or.inl ⟨by rfl, ?_⟩) ?_ ?_
                  rotate_left
                  · intro w'
                    go_simp
                    (try simp only [hwi, hcmp])
                    with_reducible rfl
                  rotate_left
                  · simp only [Act.put, List.setIfInBounds_toArray, List.set_cons_zero, List.set_cons_succ, i64_w, i32_w]
                    rfl
                  refine pure_ (i := 14) (N := some 56) (v := ?_) (a' := ?_) (bmG 24 32767) rfl rfl (by kernel_rfl) (fun _ _ _ h => h) (Or.inl ⟨by rfl, ?_⟩) ?_ ?_
                  rotate_left
                  · intro w'
                    go_simp
                    (try simp only [hwi, hcmp])
                    with_reducible rfl
                  rotate_left
                  · simp only [Act.put, List.setIfInBounds_toArray, List.set_cons_zero, List.set_cons_succ, i64_w, i32_w]
                    rfl
                  refine pure_ (i := 15) (N := some 57) (v := ?_) (a' := ?_) (bmG 24 65535) rfl rfl (by kernel_rfl) (fun _ _ _ h => h) (Or.inl ⟨by rfl, ?_⟩) ?_ ?_
                  rotate_left
                  · intro w'
                    go_simp
                    (try simp only [hwi, hcmp])
                    with_reducible rfl
                  rotate_left
                  · simp only [Act.put, List.setIfInBounds_toArray, List.set_cons_zero, List.set_cons_succ, i64_w, i32_w]
                    rfl
                  refine pure_ (i := 16) (N := some 58) (v := ?_) (a' := ?_) (bmG 24 131071) rfl rfl (by kernel_rfl) (fun _ _ _ h => h) (Or.inl ⟨by rfl, ?_⟩) ?_ ?_
                  rotate_left
                  · intro w'
                    go_simp
                    (try simp only [hwi, hcmp])
                    with_reducible rfl
                  rotate_left
                  · simp only [Act.put, List.setIfInBounds_toArray, List.set_cons_zero, List.set_cons_succ, i64_w, i32_w]
                    rfl
                  refine pure_ (i := 17) (N := some 59) (v := ?_) (a' := ?_) (bmG 24 262143) rfl rfl (by kernel_rfl) (fun _ _ _ h => h) (Or.inl ⟨by rfl, ?_⟩) ?_ ?_
                  rotate_left
                  · intro w'
                    go_simp
                    (try simp only [hwi, hcmp])
                    with_reducible rfl
                  rotate_left
                  · simp only [Act.put, List.setIfInBounds_toArray, List.set_cons_zero, List.set_cons_succ, i64_w, i32_w]
                    rfl
                  refine pure_ (i := 18) (N := some 60) (v := ?_) (a' := ?_) (bmG 24 524287) rfl rfl (by kernel_rfl) (fun _ _ _ h => h) (Or.inl ⟨by rfl, ?_⟩) ?_ ?_
                  rotate_left
                  · intro w'
                    go_simp
                    (try simp only [hwi, hcmp])
                    with_reducible rfl
                  rotate_left
                  · simp only [Act.put, List.setIfInBounds_toArray, List.set_cons_zero, List.set_cons_succ, i64_w, i32_w]
                    rfl
                  refine pure_ (i := 19) (N := some 61) (v := ?_) (a' := ?_) (bmG 24 1048575) rfl rfl (by kernel_rfl) (fun _ _ _ h => h) (Or.inl ⟨by rfl, ?_⟩) ?_ ?_
                  rotate_left
                  · intro w'
                    go_simp
                    (try simp only [hwi, hcmp])
                    with_reducible rfl
                  rotate_left
                  · simp only [Act.put, List.setIfInBounds_toArray, List.set_cons_zero, List.set_cons_succ, i64_w, i32_w]
                    rfl
                  refine pure_ (i := 20) (N := some 62) (v := ?_) (a' := ?_) (bmG 24 2097151) rfl rfl (by kernel_rfl) (fun _ _ _ h => h) (Or.inl ⟨by rfl, ?_⟩) ?_ ?_
                  rotate_left
                  · intro w'
                    go_simp
                    (try simp only [hwi, hcmp])
                    with_reducible rfl
                  rotate_left
                  · simp only [Act.put, List.setIfInBounds_toArray, List.set_cons_zero, List.set_cons_succ, i64_w, i32_w]
                    rfl
                  refine one_ (i := 21) (N := some 63) (bmG 24 4194303) rfl rfl (by kernel_rfl) (by decide) (fun Kz hKz => ?_)
                  refine goes_ Tryz.func64 (by kernel_rfl) rfl #[.slice (some ad) i c0, .string pa] (by rfl) rfl rfl (by (try simp only [List.map_toArray, List.map_cons, List.map_nil]); first | done | rfl) ?_
                  refine (HDir.out _ (below_step HB2.out hS)).mono ?_
                  rintro e wc ⟨rfl, hb⟩
                  refine ⟨_, rfl, ?_⟩
                  refine hKz.out _ _ (below_step hS hb) (fun hS => ?_)
                  clear hKz Kz
                  refine norm_ (a' := ?_) ?_ ?_
                  rotate_left
                  · show Act.put _ (some 63) _ = _
                    simp only [Act.put, List.setIfInBounds_toArray, List.set_cons_zero, List.set_cons_succ, i64_w, i32_w]
                    rfl
                  refine pure_ (i := 22) (N := some 64) (v := ?_) (a' := ?_) (bmG 24 8388607) rfl rfl (by kernel_rfl) (fun _ _ _ h => h) (Or.inl ⟨by rfl, ?_⟩) ?_ ?_
                  rotate_left
                  · intro w'
                    go_simp
                    (try simp only [hwi, hcmp])
                    with_reducible rfl
                  rotate_left
                  · simp only [Act.put, List.setIfInBounds_toArray, List.set_cons_zero, List.set_cons_succ, i64_w, i32_w]
                    rfl
                  refine pure_ (i := 23) (N := some 65) (v := ?_) (a' := ?_) (bmG 24 16777215) rfl rfl (by kernel_rfl) (fun _ _ _ h => h) (Or.inl ⟨by rfl, ?_⟩) ?_ ?_
                  rotate_left
                  · intro w'
                    go_simp
                    (try simp only [hwi, hcmp])
                    with_reducible rfl
                  rotate_left
                  · simp only [Act.put, List.setIfInBounds_toArray, List.set_cons_zero, List.set_cons_succ, i64_w, i32_w]
                    rfl
                  refine done_ (by kernel_rfl) ?_
                  cases bd with
                  | false =>
                    rw [Bool.false_and] at HF
                    go_wp2_with fail
                    go_ret
                    exact ⟨i, rfl, by rw [HF.out]; exact decide_eq_false (by omega), below_step HB2.out hS⟩
                  | true =>
                    rw [Bool.true_and] at HF
                    go_wp2_with fail
                    exact ⟨⟨i + 1, by simp, by omega, HF, ⟨below_step HB2.out hS⟩⟩, by simp [intOf]; omega⟩
      · have hic : decide ((i : Int) < (t.length : Int)) = false := decide_eq_false (by omega)
        obtain rfl : i = t.length := by omega
        have HF := Aside0.mk (show treeB t = true from by rw [HT.out, List.drop_length]; rfl)
        go_wp2_with fail
        go_ret
        exact ⟨-1, rfl, by rw [HF.out]; rfl, HB.out⟩
theorem refTree_calls (A0 : Option Addr) (c0 : Nat) (t : List S47) (w : World) (hC : Kd.C k47 w A0 t.length t) (hc : t.length ≤ c0) (hn : t.length ≤ 100000) (hs : ∀ n ∈ t, n.f0.size ≤ 100000 ∧ n.f2.size ≤ 100000) :
    Calls Tryz.prog 30 #[.slice A0 t.length c0] w fun e w' => e = .returned (.bool (treeB t)) ∧ Below w.heap.size w w' := by
  have X := Aside0.mk hC
  have HS := Aside0.mk hs
  clear hC hs
  go_enter Tryz.func30, Tryz.ntmps30
  go_wp2_with fail
  refine (refBad_calls A0 c0 t w X.out hc hn HS.out).mono ?_
  rintro e w1 ⟨r, rfl, hr, hb⟩
  have HB := Aside0.mk hb
  clear hb
  go_wp2_with fail
  go_ret
  exact ⟨by rw [← hr]; rfl, HB.out⟩
end Go.Proofs.YtdijnmcfpbceaaaGreatDoor.X

namespace Go.Proofs.YtdijnmcfpbceaaaGreatDoor.P
open Go.Proofs.YtdijnmcfpbceaaaGreatDoor.X
open Go.RowKit Go.Proofs.YtdijnmcfpbceaaaGreatDoorW.PrintWords Go.Proofs.YtdijnmcfpbceaaaGreatDoorW.PrintLast Go.Proofs.YtdijnmcfpbceaaaGreatDoorW.PrintMore
attribute [local go_sem] min2_int min_two
set_option linter.unusedVariables false
set_option linter.unusedSimpArgs false
def hogsheadref13_Decimal.f : Nat → Int → Option (ByteArray)
 | 0, _ => none
 | k + 1, a0 => if a0 < 10 then (if 0 ≤ a0 then (if a0 ≤ (wrap64 (a0 + 1)) then (if (wrap64 (a0 + 1)) ≤ 10 then (some ((⟨#[48, 49, 50, 51, 52, 53, 54, 55, 56, 57]⟩ : ByteArray).extract (a0 : Int).toNat ((wrap64 (a0 + 1)) : Int).toNat)) else (none)) else (none)) else (none)) else ((hogsheadref13_Decimal.f k (wrap64 (Int.tdiv a0 10))).bind fun t107 => ((hogsheadref13_Decimal.f k (Int.tmod a0 10)).bind fun t108 => (if t107.size + t108.size ≤ 9223372036854775807 then (some (t107 ++ t108)) else (none))))
set_option maxHeartbeats 8000000 in
set_option maxRecDepth 100000 in
theorem hogsheadref13_Decimal.calls (k : Nat) : ∀ (a0 : Int) (r : ByteArray) (w : World) (h : hogsheadref13_Decimal.f k a0 = some r),
  Calls Tryz.prog 36 #[.int .i64 a0] w fun e w' => e = .returned (.string r) ∧ Drawn0 w w' := by
 induction k using Nat.strongRecOn with
 | _ k ih =>
 intro a0 r w h
 cases k with
 | zero => exact absurd h (by simp [hogsheadref13_Decimal.f])
 | succ k =>
 simp only [hogsheadref13_Decimal.f] at h
 have H : (if a0 < 10 then (if 0 ≤ a0 then (if a0 ≤ (wrap64 (a0 + 1)) then (if (wrap64 (a0 + 1)) ≤ 10 then (some ((⟨#[48, 49, 50, 51, 52, 53, 54, 55, 56, 57]⟩ : ByteArray).extract (a0 : Int).toNat ((wrap64 (a0 + 1)) : Int).toNat)) else (none)) else (none)) else (none)) else ((hogsheadref13_Decimal.f k (wrap64 (Int.tdiv a0 10))).bind fun t107 => ((hogsheadref13_Decimal.f k (Int.tmod a0 10)).bind fun t108 => (if t107.size + t108.size ≤ 9223372036854775807 then (some (t107 ++ t108)) else (none))))) = some r := h
 clear h
 by_cases c2 : a0 < 10
 ·rw [if_pos c2] at H
  have c2b0 : decide (a0 < 10) = true := decide_eq_true c2
  clear c2
  by_cases c3 : 0 ≤ a0
  ·rw [if_pos c3] at H
   have c3b0 := eq_true c3
   have c3b1 : decide (0 ≤ a0) = true := decide_eq_true c3
   clear c3
   by_cases c4 : a0 ≤ (wrap64 (a0 + 1))
   ·rw [if_pos c4] at H
    have c4b0 := eq_true c4
    have c4b1 : decide (a0 ≤ (wrap64 (a0 + 1))) = true := decide_eq_true c4
    by_cases c5 : (wrap64 (a0 + 1)) ≤ 10
    ·rw [if_pos c5] at H
     have c5b0 := eq_true c5
     have c5b1 : decide ((wrap64 (a0 + 1)) ≤ 10) = true := decide_eq_true c5
     obtain rfl := Option.some.inj H
     go_enter Tryz.func36, Tryz.ntmps36
     go_wp2
     go_ret
     exact ⟨by first | rfl | (simp; done) | (simp [*]; done), by repeat (first | exact Drawn0.refl _ | apply Drawn0.step)⟩
    ·rw [if_neg c5] at H
     exact absurd H (by simp)
   ·rw [if_neg c4] at H
    exact absurd H (by simp)
  ·rw [if_neg c3] at H
   exact absurd H (by simp)
 ·rw [if_neg c2] at H
  have c2b0 : decide (a0 < 10) = false := decide_eq_false c2
  clear c2
  replace H := Option.bind_eq_some_iff.mp H
  obtain ⟨t107, A60, H⟩ := H
  replace H : ((hogsheadref13_Decimal.f k (Int.tmod a0 10)).bind fun t108 => (if t107.size + t108.size ≤ 9223372036854775807 then (some (t107 ++ t108)) else (none))) = some r := H
  have A6 := Aside0.mk A60
  clear A60
  replace H := Option.bind_eq_some_iff.mp H
  obtain ⟨t108, A70, H⟩ := H
  replace H : (if t107.size + t108.size ≤ 9223372036854775807 then (some (t107 ++ t108)) else (none)) = some r := H
  have A7 := Aside0.mk A70
  clear A70
  by_cases c8 : t107.size + t108.size ≤ 9223372036854775807
  ·rw [if_pos c8] at H
   have c8b0 := eq_true c8
   have c8b1 : decide (t107.size + t108.size ≤ 9223372036854775807) = true := decide_eq_true c8
   try have c8b2 : (9223372036854775807 < t107.size + t108.size) = False := eq_false (Nat.not_lt.2 c8)
   have Sc8 := Aside0.mk c8
   clear c8
   obtain rfl := Option.some.inj H
   go_enter Tryz.func36, Tryz.ntmps36
   go_wp2_with (first | ((with_reducible refine gate_callee (f := 36) rfl ?_); refine goesL_ (some 11) rfl rfl Tryz.func36 (by kernel_rfl) rfl #[.int .i64 (wrap64 (Int.tdiv a0 10))] rfl (by (try simp only [List.map_toArray, List.map_cons, List.map_nil]); first | done | rfl | (simp only [List.length_drop, List.length_take]; rfl)) ?_; (with_reducible refine (ih k (by omega) (wrap64 (Int.tdiv a0 10)) t107 _ A6.out).mono ?_); rintro e w' ⟨rfl, ⟨nd, rfl⟩⟩; refine ⟨_, rfl, ?_⟩) | ((with_reducible refine gate_callee (f := 36) rfl ?_); refine goesL_ (some 14) rfl rfl Tryz.func36 (by kernel_rfl) rfl #[.int .i64 (Int.tmod a0 10)] rfl (by (try simp only [List.map_toArray, List.map_cons, List.map_nil]); first | done | rfl | (simp only [List.length_drop, List.length_take]; rfl)) ?_; (with_reducible refine (ih k (by omega) (Int.tmod a0 10) t108 _ A7.out).mono ?_); rintro e w' ⟨rfl, ⟨nd, rfl⟩⟩; refine ⟨_, rfl, ?_⟩))
   try any_goals (exfalso; have h_ := Sc8.out; rename_i hb_; (try simp only [ByteArray.size_extract, ByteArray.size_append] at h_ hb_); (try simp only [ByteArray.size, List.size_toArray, List.length_cons, List.length_nil] at h_ hb_); omega)
   go_ret
   exact ⟨by first | rfl | (simp; done) | (simp [*]; done), by repeat (first | exact Drawn0.refl _ | apply Drawn0.step)⟩
  ·rw [if_neg c8] at H
   exact absurd H (by simp)
end Go.Proofs.YtdijnmcfpbceaaaGreatDoor.P

namespace Go.Proofs.YtdijnmcfpbceaaaGreatDoor.P
open Go.Proofs.YtdijnmcfpbceaaaGreatDoor.X
open Go.RowKit Go.Proofs.YtdijnmcfpbceaaaGreatDoorW.PrintWords Go.Proofs.YtdijnmcfpbceaaaGreatDoorW.PrintLast Go.Proofs.YtdijnmcfpbceaaaGreatDoorW.PrintMore
attribute [local go_sem] min2_int min_two
set_option linter.unusedVariables false
set_option linter.unusedSimpArgs false
def hogsheadref13_cut.f (a0 : ByteArray) : Option (ByteArray) := if 0 ≤ (mn (a0.size : Int) 100) then (if (mn (a0.size : Int) 100) ≤ (a0.size : Int) then (some (a0.extract 0 ((mn (a0.size : Int) 100) : Int).toNat)) else (none)) else (none)
set_option maxHeartbeats 8000000 in
set_option maxRecDepth 100000 in
theorem hogsheadref13_cut.calls (a0 : ByteArray) (r : ByteArray) (w : World) (h : hogsheadref13_cut.f a0 = some r) :
  Calls Tryz.prog 34 #[.string a0] w fun e w' => e = .returned (.string r) ∧ Below w.heap.size w w' := by
 have HB := Aside0.mk (Below.refl w.heap.size w)
 have H : (if 0 ≤ (mn (a0.size : Int) 100) then (if (mn (a0.size : Int) 100) ≤ (a0.size : Int) then (some (a0.extract 0 ((mn (a0.size : Int) 100) : Int).toNat)) else (none)) else (none)) = some r := h
 clear h
 obtain ⟨ji2, hji2⟩ : ∃ j_ : Int, (mn (a0.size : Int) 100) = j_ := ⟨_, rfl⟩
 replace H : (if 0 ≤ (ji2) then (if (ji2) ≤ (a0.size : Int) then (some (a0.extract 0 ((ji2) : Int).toNat)) else (none)) else (none)) = some r := by first | (rw [hji2] at H; exact H) | (simp only [hji2] at H ⊢; exact H)
 (try (have hji2h : ji2 ≤ 100 := by (rw [← hji2]; unfold mn; (repeat' split) <;> omega)))
 (try (have hji2g : ji2 ≤ 64 := by omega))
 (try (have hji2l : 0 ≤ ji2 := by (rw [← hji2]; unfold mn; (repeat' split) <;> omega)))
 (try (have hji2m : 0 ≤ ji2 := by omega))
 have hji2_ : (if 100 < (a0.size : Int) then 100 else (a0.size : Int)) = ji2 := hji2
 by_cases c3 : 0 ≤ (ji2)
 ·rw [if_pos c3] at H
  have c3b0 := eq_true c3
  have c3b1 : decide (0 ≤ (ji2)) = true := decide_eq_true c3
  clear c3
  by_cases c4 : (ji2) ≤ (a0.size : Int)
  ·rw [if_pos c4] at H
   have c4b0 := eq_true c4
   have c4b1 : decide ((ji2) ≤ (a0.size : Int)) = true := decide_eq_true c4
   clear c4
   obtain rfl := Option.some.inj H
   go_enter Tryz.func34, Tryz.ntmps34
   go_wp2
   go_ret
   exact ⟨by first | rfl | (simp [errW_none, errW_some] <;> rfl) | (simp only [← hji2]; first | rfl | (simp [errW_none, errW_some] <;> rfl)) | (simp [*, errW_none, errW_some] <;> rfl), by repeat (first | (with_reducible first | exact HB.out | apply below_alloc | apply pw_below_drewN | apply below_drew1) | exact HB.out)⟩
  ·rw [if_neg c4] at H
   exact absurd H (by simp)
 ·rw [if_neg c3] at H
  exact absurd H (by simp)
end Go.Proofs.YtdijnmcfpbceaaaGreatDoor.P

namespace Go.Proofs.YtdijnmcfpbceaaaGreatDoor.X
open Go.RowKit Go.Proofs.YtdijnmcfpbceaaaGreatDoorW.PrintWords Go.Proofs.YtdijnmcfpbceaaaGreatDoorW.PrintLast Go.Proofs.YtdijnmcfpbceaaaGreatDoorW.PrintMore Go.Proofs.YtdijnmcfpbceaaaGreatDoor.P
set_option linter.unusedVariables false
set_option linter.unusedSimpArgs false
theorem digit13_cut (n : Nat) (h : n < 10) : (⟨#[48, 49, 50, 51, 52, 53, 54, 55, 56, 57]⟩ : ByteArray).extract n (n + 1) = decT n := by
  unfold decT
  rw [Lib.decDigits_one h]
  rcases (by omega : n = 0 ∨ n = 1 ∨ n = 2 ∨ n = 3 ∨ n = 4 ∨ n = 5 ∨ n = 6 ∨ n = 7 ∨ n = 8 ∨ n = 9) with h | h | h | h | h | h | h | h | h | h <;> subst h <;> rfl
theorem decT_len (u : Nat) (h : u ≤ 9223372036854775807) : (decT u).size ≤ 21 := by
  rw [decT_size]
  have := lenD_le 18 u (by
    have : (10 : Nat) ^ (18 + 1) = 10000000000000000000 := by decide
    omega)
  omega
theorem decimal13 : ∀ (d u : Nat), u < d → u ≤ 9223372036854775807 → Ev (fun k => hogsheadref13_Decimal.f k (u : Int)) (decT u) := by
  intro d
  induction d with
  | zero => intro u hu; omega
  | succ d ih =>
    intro u hu hm
    by_cases c : u < 10
    · refine ⟨1, fun k hk => ?_⟩
      obtain ⟨k, rfl⟩ : ∃ m, k = m + 1 := ⟨k - 1, by omega⟩
      have ew : wrap64 ((u : Int) + 1) = ((u + 1 : Nat) : Int) := by unfold wrap64; omega
      simp only [hogsheadref13_Decimal.f]
      rw [if_pos (by omega), if_pos (by omega), ew, if_pos (by omega), if_pos (by omega)]
      rw [show ((u : Int)).toNat = u from rfl, show (((u + 1 : Nat) : Int)).toNat = u + 1 from rfl, digit13_cut u c]
    · obtain ⟨K1, h1⟩ := ih (u / 10) (by omega) (by omega)
      obtain ⟨K2, h2⟩ := ih (u % 10) (by omega) (by omega)
      refine ⟨K1 + K2 + 1, fun k hk => ?_⟩
      obtain ⟨k, rfl⟩ : ∃ m, k = m + 1 := ⟨k - 1, by omega⟩
      have h1 := h1 k (by omega)
      have h2 := h2 k (by omega)
      simp only at h1 h2
      have e1 : wrap64 (Int.tdiv (u : Int) 10) = ((u / 10 : Nat) : Int) := by
        rw [Int.tdiv_eq_ediv_of_nonneg (by omega)]; unfold wrap64; omega
      have e2 : Int.tmod (u : Int) 10 = ((u % 10 : Nat) : Int) := by
        rw [Int.tmod_eq_emod_of_nonneg (by omega)]; omega
      simp only [hogsheadref13_Decimal.f]
      rw [if_neg (by omega), e1, e2, h1, h2]
      simp only [Option.bind_some]
      have l1 := decT_len (u / 10) (by omega)
      have l2 := decT_len (u % 10) (by omega)
      rw [if_pos (by clear e1 e2; omega)]
      have e3 : Lib.decDigits u = Lib.decDigits (u / 10) ++ Lib.decDigits (u % 10) := by
        conv => lhs; rw [Lib.decDigits]
        rw [dif_neg c, Lib.decDigits_one (by omega : u % 10 < 10)]
      unfold decT
      rw [append_mk, e3]
set_option maxHeartbeats 4000000 in
theorem refRecord_calls (key value : ByteArray) (w : World) (hs : key.size + value.size ≤ 800000) :
    Calls Tryz.prog 15 #[.string key, .string value] w fun e w' => e = .returned (.string (recT key value)) ∧ Below w.heap.size w w' := by
  have HE := Aside0.mk (recT_eq key value)
  have HRs := Aside0.mk (restT_size key value)
  go_enter Tryz.func15, Tryz.ntmps15
  go_wp2_with fail
  have HI := Aside0.mk (recM_spec (key.size + value.size + 3) (by omega))
  have hM7 := (recM_gt (key.size + value.size + 3) (by omega)).2
  have hMg := (recM_gt (key.size + value.size + 3) (by omega)).1
  have hst : (1 + (key.size : Int) + 1 + (value.size : Int) + 1) = ((key.size + value.size + 3 : Nat) : Int) := by omega
  have HRT : Aside0 (({ data := #[32] } ++ key ++ { data := #[61] } ++ value ++ { data := #[10] } : ByteArray) = restT key value) := ⟨rfl⟩
  rw [HRT.out, hst]
  clear HRT hst
  have hrt := HRs.out
  generalize restT key value = rt at *
  have hL : key.size + value.size + 3 ≤ 800003 := by omega
  generalize key.size + value.size + 3 = L at *
  generalize recM L = M at *
  clear HRs
  (try rw [show wrap64 ((L : Int) + 1) = ((L + 1 : Nat) : Int) from by unfold wrap64; omega])
  go_loopw [6] (fun v6 wr => ∃ n : Nat, v6 = .int .i64 n ∧ L ≤ n ∧ n ≤ M ∧ Aside0 (Below w.heap.size w wr)) (fun a _ => M - (intOf a).toNat)
  case atStart => exact ⟨L + 1, by first | rfl | (congr 1; omega), by omega, by omega, ⟨Below.refl _ _⟩⟩
  case round =>
    obtain ⟨n, rfl, hn1, hn2, HB⟩ := hrel
    have HDc := Aside0.mk (decimal13 (n + 1) n (by omega) (by omega))
    have HDS := Aside0.mk (decT_size n)
    have hd7 : (decT n).size ≤ 6 := by
      rw [HDS.out]
      exact lenD_le 5 n (by
        have : (10 : Nat) ^ (5 + 1) = 1000000 := by decide
        omega)
    have HC1 := Aside0.mk (show n < M → n < L + (decT n).size from fun h => by rw [HDS.out]; exact HI.out.2 n hn1 h)
    have HC2 := Aside0.mk (show n = M → n = L + (decT n).size from fun h => by rw [HDS.out, h]; exact HI.out.1)
    clear HDS
    go_wp2_with fail
    obtain ⟨K, hK⟩ := HDc.out
    have HK := Aside0.mk (hK K (Nat.le_refl _))
    clear hK HDc
    refine (hogsheadref13_Decimal.calls K (n : Int) (decT n) wr HK.out).mono ?_
    rintro e w1 ⟨rfl, hd⟩
    have HB1 := Aside0.mk (below_step HB.out hd.below)
    clear hd HB
    by_cases hnm : n = M
    · have hne : ((n : Int) != (L : Int) + ((decT n).size : Int)) = false := by
        rw [bne_eq_false_iff_eq]
        have := HC2.out hnm
        omega
      subst hnm
      clear HC1 HC2
      go_wp2_with fail
      refine (hogsheadref13_Decimal.calls K (n : Int) (decT n) w1 HK.out).mono ?_
      rintro e w2 ⟨rfl, hd⟩
      have HB2 := Aside0.mk (below_step HB1.out hd.below)
      clear hd HB1 hne
      have hroom : (decT n).size + rt.size ≤ 9223372036854775807 := by omega
      go_wp2_with fail
      go_ret
      rw [HE.out]
      exact ⟨rfl, HB2.out⟩
    · have hne : ((n : Int) != (L : Int) + ((decT n).size : Int)) = true := by
        rw [bne_iff_ne]
        have := HC1.out (by omega)
        omega
      clear HC1 HC2
      go_wp2_with fail
      exact ⟨⟨n + 1, by first | rfl | (congr 1; omega), by omega, by omega, HB1⟩, by simp only [intOf]; omega⟩
theorem refCut13_eq (s : ByteArray) : hogsheadref13_cut.f s = some (cutS s) := by
  unfold hogsheadref13_cut.f cutS
  have e : mn (s.size : Int) 100 = ((min s.size 100 : Nat) : Int) := by
    unfold mn
    omega
  rw [e, if_pos (by omega), if_pos (by omega), Int.toNat_natCast]
def linkN (n : S47) : ByteArray := if n.f1 = 4 then n.f2 else ⟨#[]⟩
def dataN (n : S47) : ByteArray := if n.f1 = 4 then ⟨#[]⟩ else n.f2
set_option maxHeartbeats 4000000 in
theorem refParts_calls (n : S47) (w : World) (h0 : n.f0.size ≤ 100000) (h2 : n.f2.size ≤ 100000) :
    Calls Tryz.prog 31 #[.agg #[.string n.f0, .int .i64 n.f1, .string n.f2]] w fun e w' => e = .returned (.tuple #[.string (nameN n), .string (linkN n), .string (dataN n), .string (extraN n)]) ∧ Below w.heap.size w w' := by
  have hnm : (nameN n).size ≤ 100000 := by
    unfold nameN
    split
    · exact (by decide : (⟨#[46]⟩ : ByteArray).size ≤ 100000)
    · exact h0
  have hr : ∀ a b : ByteArray, a.size ≤ 10 → b.size ≤ 100000 → (recT a b).size ≤ 200000 := fun a b ha hb => by
    rw [recT_eq, ByteArray.size_append, decT_size, restT_size]
    have h1 := lenD_le 5 (recM (a.size + b.size + 3)) (by
      have h2 := (recM_gt (a.size + b.size + 3) (by omega)).2
      have : (10 : Nat) ^ (5 + 1) = 1000000 := by decide
      omega)
    omega
  have e8 : (⟨#[108, 105, 110, 107, 112, 97, 116, 104]⟩ : ByteArray).size = 8 := rfl
  have e4 : (⟨#[112, 97, 116, 104]⟩ : ByteArray).size = 4 := rfl
  have HR1 := Aside0.mk (fun W => refRecord_calls ⟨#[112, 97, 116, 104]⟩ (nameN n) W (by omega))
  have HR2 := Aside0.mk (fun W => refRecord_calls ⟨#[108, 105, 110, 107, 112, 97, 116, 104]⟩ n.f2 W (by omega))
  have hs1 := hr ⟨#[112, 97, 116, 104]⟩ (nameN n) (by omega) hnm
  have hs2 := hr ⟨#[108, 105, 110, 107, 112, 97, 116, 104]⟩ n.f2 (by omega) h2
  clear hr e8 e4
  obtain ⟨be, hbe⟩ : ∃ b, (n.f0.toList == ([] : List UInt8)) = b := ⟨_, rfl⟩
  obtain ⟨b4, hb4⟩ : ∃ b, (n.f1 == 4) = b := ⟨_, rfl⟩
  have HN := Aside0.mk (show nameN n = if be = true then ⟨#[46]⟩ else n.f0 from by
    unfold nameN
    by_cases h : n.f0.size = 0
    · rw [if_pos h, if_pos (by rw [← hbe, (toList_nil _).2 h]; rfl)]
    · rw [if_neg h, if_neg (fun e => h ((toList_nil _).1 (by rw [← hbe] at e; exact beq_iff_eq.1 e)))])
  have HL := Aside0.mk (show linkN n = if b4 = true then n.f2 else ⟨#[]⟩ from by
    unfold linkN
    by_cases h : n.f1 = 4
    · rw [if_pos h, if_pos (by rw [← hb4]; exact beq_iff_eq.2 h)]
    · rw [if_neg h, if_neg (fun e => h (by rw [← hb4] at e; exact beq_iff_eq.1 e))])
  have HD := Aside0.mk (show dataN n = if b4 = true then ⟨#[]⟩ else n.f2 from by
    unfold dataN
    by_cases h : n.f1 = 4
    · rw [if_pos h, if_pos (by rw [← hb4]; exact beq_iff_eq.2 h)]
    · rw [if_neg h, if_neg (fun e => h (by rw [← hb4] at e; exact beq_iff_eq.1 e))])
  have HX := Aside0.mk (show extraN n = (if 100 < (nameN n).size then recT ⟨#[112, 97, 116, 104]⟩ (nameN n) else ⟨#[]⟩) ++ (if b4 = true ∧ 100 < n.f2.size then recT ⟨#[108, 105, 110, 107, 112, 97, 116, 104]⟩ n.f2 else ⟨#[]⟩) from by
    unfold extraN
    congr 1
    by_cases h : n.f1 = 4 ∧ 100 < n.f2.size
    · rw [if_pos h, if_pos ⟨by rw [← hb4]; exact beq_iff_eq.2 h.1, h.2⟩]
    · rw [if_neg h, if_neg (fun e => h ⟨by rw [← hb4] at e; exact beq_iff_eq.1 e.1, e.2⟩)])
  generalize linkN n = ln at *
  generalize dataN n = dn at *
  generalize extraN n = xn at *
  generalize nameN n = nm at *
  generalize hz1 : recT ⟨#[112, 97, 116, 104]⟩ nm = r1 at *
  generalize hz2 : recT ⟨#[108, 105, 110, 107, 112, 97, 116, 104]⟩ n.f2 = r2 at *
  clear hz1 hz2
  obtain ⟨f0, f1, f2⟩ := n
  simp only at *
  go_enter Tryz.func31, Tryz.ntmps31
  go_wp2_with fail
  have HB := Aside0.mk (below_alloc (Below.refl w.heap.size w) (.cells #[.string f0, .int .i64 f1, .string f2] 47))
  have HZ := Aside0.mk (blk_new w (.cells #[.string f0, .int .i64 f1, .string f2] 47))
  generalize w.alloc (.cells #[.string f0, .int .i64 f1, .string f2] 47) = W0 at *
  have z0 : W0.cell? ⟨w.heap.size, 0, none⟩ = some (.string f0) := (blk_cell HZ.out 0).trans rfl
  have z1 : W0.cell? ⟨w.heap.size, 1, none⟩ = some (.int .i64 f1) := (blk_cell HZ.out 1).trans rfl
  have z2 : W0.cell? ⟨w.heap.size, 2, none⟩ = some (.string f2) := (blk_cell HZ.out 2).trans rfl
  go_quiet (fail)
  cases be with
  | true =>
    obtain rfl : nm = ⟨#[46]⟩ := HN.out
    clear HN HR1
    cases b4 with
    | false =>
      obtain rfl : ln = ⟨#[]⟩ := HL.out
      obtain rfl : f2 = dn := HD.out.symm
      clear HL HD
      go_wp2_with (first
          | (go_at_call 15; refine (HR1.out _).mono ?_; rintro e w1 ⟨rfl, hb⟩; have HB := Aside0.mk (below_step (by repeat (first | exact HB.out | apply pw_below_drewN | apply below_drew1)) hb); clear hb; clear HR1)
          | (go_at_call 15; refine (HR2.out _).mono ?_; rintro e w2 ⟨rfl, hb⟩; have HB := Aside0.mk (below_step (by repeat (first | exact HB.out | apply pw_below_drewN | apply below_drew1)) hb); clear hb))
      repeat (go_quiet (first
          | (go_at_call 15; refine (HR1.out _).mono ?_; rintro e w1 ⟨rfl, hb⟩; have HB := Aside0.mk (below_step (by repeat (first | exact HB.out | apply pw_below_drewN | apply below_drew1)) hb); clear hb; clear HR1)
          | (go_at_call 15; refine (HR2.out _).mono ?_; rintro e w2 ⟨rfl, hb⟩; have HB := Aside0.mk (below_step (by repeat (first | exact HB.out | apply pw_below_drewN | apply below_drew1)) hb); clear hb)))
      refine bodyPost_ret (results_list (rs := [.tmp 2, .tmp 3, .tmp 4, .tmp 5]) rfl (by simp) (.tmp (.tmp (.tmp (.tmp .nil))))) rfl ?_
      rw [HX.out]
      rw [if_neg (show ¬ 100 < (⟨#[46]⟩ : ByteArray).size by decide)]
      rw [if_neg (by intro h; cases h.1), append_empty]
      exact ⟨rfl, by repeat (first | exact HB.out | apply pw_below_drewN | apply below_drew1)⟩
    | true =>
      obtain rfl : f2 = ln := HL.out.symm
      obtain rfl : dn = ⟨#[]⟩ := HD.out
      clear HL HD
      by_cases q : 100 < f2.size
      · have hq : decide ((100 : Int) < (f2.size : Int)) = true := decide_eq_true (by omega)
        have hqi : (100 : Int) < (f2.size : Int) := by omega
        go_wp2_with (first
            | (go_at_call 15; refine (HR1.out _).mono ?_; rintro e w1 ⟨rfl, hb⟩; have HB := Aside0.mk (below_step (by repeat (first | exact HB.out | apply pw_below_drewN | apply below_drew1)) hb); clear hb; clear HR1)
            | (go_at_call 15; refine (HR2.out _).mono ?_; rintro e w2 ⟨rfl, hb⟩; have HB := Aside0.mk (below_step (by repeat (first | exact HB.out | apply pw_below_drewN | apply below_drew1)) hb); clear hb))
        repeat (go_quiet (first
            | (go_at_call 15; refine (HR1.out _).mono ?_; rintro e w1 ⟨rfl, hb⟩; have HB := Aside0.mk (below_step (by repeat (first | exact HB.out | apply pw_below_drewN | apply below_drew1)) hb); clear hb; clear HR1)
            | (go_at_call 15; refine (HR2.out _).mono ?_; rintro e w2 ⟨rfl, hb⟩; have HB := Aside0.mk (below_step (by repeat (first | exact HB.out | apply pw_below_drewN | apply below_drew1)) hb); clear hb)))
        refine bodyPost_ret (results_list (rs := [.tmp 2, .tmp 3, .tmp 4, .tmp 5]) rfl (by simp) (.tmp (.tmp (.tmp (.tmp .nil))))) rfl ?_
        rw [HX.out]
        rw [if_neg (show ¬ 100 < (⟨#[46]⟩ : ByteArray).size by decide)]
        rw [if_pos (by first | exact ⟨rfl, by omega⟩ | exact ⟨trivial, by omega⟩)]
        exact ⟨rfl, by repeat (first | exact HB.out | apply pw_below_drewN | apply below_drew1)⟩
      · have hq : decide ((100 : Int) < (f2.size : Int)) = false := decide_eq_false (by omega)
        go_wp2_with (first
            | (go_at_call 15; refine (HR1.out _).mono ?_; rintro e w1 ⟨rfl, hb⟩; have HB := Aside0.mk (below_step (by repeat (first | exact HB.out | apply pw_below_drewN | apply below_drew1)) hb); clear hb; clear HR1)
            | (go_at_call 15; refine (HR2.out _).mono ?_; rintro e w2 ⟨rfl, hb⟩; have HB := Aside0.mk (below_step (by repeat (first | exact HB.out | apply pw_below_drewN | apply below_drew1)) hb); clear hb))
        repeat (go_quiet (first
            | (go_at_call 15; refine (HR1.out _).mono ?_; rintro e w1 ⟨rfl, hb⟩; have HB := Aside0.mk (below_step (by repeat (first | exact HB.out | apply pw_below_drewN | apply below_drew1)) hb); clear hb; clear HR1)
            | (go_at_call 15; refine (HR2.out _).mono ?_; rintro e w2 ⟨rfl, hb⟩; have HB := Aside0.mk (below_step (by repeat (first | exact HB.out | apply pw_below_drewN | apply below_drew1)) hb); clear hb)))
        refine bodyPost_ret (results_list (rs := [.tmp 2, .tmp 3, .tmp 4, .tmp 5]) rfl (by simp) (.tmp (.tmp (.tmp (.tmp .nil))))) rfl ?_
        rw [HX.out]
        rw [if_neg (show ¬ 100 < (⟨#[46]⟩ : ByteArray).size by decide)]
        rw [if_neg (by intro h; omega), append_empty]
        exact ⟨rfl, by repeat (first | exact HB.out | apply pw_below_drewN | apply below_drew1)⟩
  | false =>
    obtain rfl : f0 = nm := HN.out.symm
    clear HN
    by_cases p : 100 < f0.size
    · have hp : decide ((100 : Int) < (f0.size : Int)) = true := decide_eq_true (by omega)
      cases b4 with
      | false =>
        obtain rfl : ln = ⟨#[]⟩ := HL.out
        obtain rfl : f2 = dn := HD.out.symm
        clear HL HD
        go_wp2_with (first
            | (go_at_call 15; refine (HR1.out _).mono ?_; rintro e w1 ⟨rfl, hb⟩; have HB := Aside0.mk (below_step (by repeat (first | exact HB.out | apply pw_below_drewN | apply below_drew1)) hb); clear hb; clear HR1)
            | (go_at_call 15; refine (HR2.out _).mono ?_; rintro e w2 ⟨rfl, hb⟩; have HB := Aside0.mk (below_step (by repeat (first | exact HB.out | apply pw_below_drewN | apply below_drew1)) hb); clear hb))
        repeat (go_quiet (first
            | (go_at_call 15; refine (HR1.out _).mono ?_; rintro e w1 ⟨rfl, hb⟩; have HB := Aside0.mk (below_step (by repeat (first | exact HB.out | apply pw_below_drewN | apply below_drew1)) hb); clear hb; clear HR1)
            | (go_at_call 15; refine (HR2.out _).mono ?_; rintro e w2 ⟨rfl, hb⟩; have HB := Aside0.mk (below_step (by repeat (first | exact HB.out | apply pw_below_drewN | apply below_drew1)) hb); clear hb)))
        refine bodyPost_ret (results_list (rs := [.tmp 2, .tmp 3, .tmp 4, .tmp 5]) rfl (by simp) (.tmp (.tmp (.tmp (.tmp .nil))))) rfl ?_
        rw [HX.out]
        rw [if_pos (show 100 < f0.size by omega)]
        rw [if_neg (by intro h; cases h.1), append_empty]
        exact ⟨rfl, by repeat (first | exact HB.out | apply pw_below_drewN | apply below_drew1)⟩
      | true =>
        obtain rfl : f2 = ln := HL.out.symm
        obtain rfl : dn = ⟨#[]⟩ := HD.out
        clear HL HD
        by_cases q : 100 < f2.size
        · have hq : decide ((100 : Int) < (f2.size : Int)) = true := decide_eq_true (by omega)
          have hqi : (100 : Int) < (f2.size : Int) := by omega
          go_wp2_with (first
              | (go_at_call 15; refine (HR1.out _).mono ?_; rintro e w1 ⟨rfl, hb⟩; have HB := Aside0.mk (below_step (by repeat (first | exact HB.out | apply pw_below_drewN | apply below_drew1)) hb); clear hb; clear HR1)
              | (go_at_call 15; refine (HR2.out _).mono ?_; rintro e w2 ⟨rfl, hb⟩; have HB := Aside0.mk (below_step (by repeat (first | exact HB.out | apply pw_below_drewN | apply below_drew1)) hb); clear hb))
          repeat (go_quiet (first
              | (go_at_call 15; refine (HR1.out _).mono ?_; rintro e w1 ⟨rfl, hb⟩; have HB := Aside0.mk (below_step (by repeat (first | exact HB.out | apply pw_below_drewN | apply below_drew1)) hb); clear hb; clear HR1)
              | (go_at_call 15; refine (HR2.out _).mono ?_; rintro e w2 ⟨rfl, hb⟩; have HB := Aside0.mk (below_step (by repeat (first | exact HB.out | apply pw_below_drewN | apply below_drew1)) hb); clear hb)))
          refine bodyPost_ret (results_list (rs := [.tmp 2, .tmp 3, .tmp 4, .tmp 5]) rfl (by simp) (.tmp (.tmp (.tmp (.tmp .nil))))) rfl ?_
          rw [HX.out]
          rw [if_pos (show 100 < f0.size by omega)]
          rw [if_pos (by first | exact ⟨rfl, by omega⟩ | exact ⟨trivial, by omega⟩)]
          exact ⟨rfl, by repeat (first | exact HB.out | apply pw_below_drewN | apply below_drew1)⟩
        · have hq : decide ((100 : Int) < (f2.size : Int)) = false := decide_eq_false (by omega)
          go_wp2_with (first
              | (go_at_call 15; refine (HR1.out _).mono ?_; rintro e w1 ⟨rfl, hb⟩; have HB := Aside0.mk (below_step (by repeat (first | exact HB.out | apply pw_below_drewN | apply below_drew1)) hb); clear hb; clear HR1)
              | (go_at_call 15; refine (HR2.out _).mono ?_; rintro e w2 ⟨rfl, hb⟩; have HB := Aside0.mk (below_step (by repeat (first | exact HB.out | apply pw_below_drewN | apply below_drew1)) hb); clear hb))
          repeat (go_quiet (first
              | (go_at_call 15; refine (HR1.out _).mono ?_; rintro e w1 ⟨rfl, hb⟩; have HB := Aside0.mk (below_step (by repeat (first | exact HB.out | apply pw_below_drewN | apply below_drew1)) hb); clear hb; clear HR1)
              | (go_at_call 15; refine (HR2.out _).mono ?_; rintro e w2 ⟨rfl, hb⟩; have HB := Aside0.mk (below_step (by repeat (first | exact HB.out | apply pw_below_drewN | apply below_drew1)) hb); clear hb)))
          refine bodyPost_ret (results_list (rs := [.tmp 2, .tmp 3, .tmp 4, .tmp 5]) rfl (by simp) (.tmp (.tmp (.tmp (.tmp .nil))))) rfl ?_
          rw [HX.out]
          rw [if_pos (show 100 < f0.size by omega)]
          rw [if_neg (by intro h; omega), append_empty]
          exact ⟨rfl, by repeat (first | exact HB.out | apply pw_below_drewN | apply below_drew1)⟩
    · have hp : decide ((100 : Int) < (f0.size : Int)) = false := decide_eq_false (by omega)
      clear HR1
      cases b4 with
      | false =>
        obtain rfl : ln = ⟨#[]⟩ := HL.out
        obtain rfl : f2 = dn := HD.out.symm
        clear HL HD
        go_wp2_with (first
            | (go_at_call 15; refine (HR1.out _).mono ?_; rintro e w1 ⟨rfl, hb⟩; have HB := Aside0.mk (below_step (by repeat (first | exact HB.out | apply pw_below_drewN | apply below_drew1)) hb); clear hb; clear HR1)
            | (go_at_call 15; refine (HR2.out _).mono ?_; rintro e w2 ⟨rfl, hb⟩; have HB := Aside0.mk (below_step (by repeat (first | exact HB.out | apply pw_below_drewN | apply below_drew1)) hb); clear hb))
        repeat (go_quiet (first
            | (go_at_call 15; refine (HR1.out _).mono ?_; rintro e w1 ⟨rfl, hb⟩; have HB := Aside0.mk (below_step (by repeat (first | exact HB.out | apply pw_below_drewN | apply below_drew1)) hb); clear hb; clear HR1)
            | (go_at_call 15; refine (HR2.out _).mono ?_; rintro e w2 ⟨rfl, hb⟩; have HB := Aside0.mk (below_step (by repeat (first | exact HB.out | apply pw_below_drewN | apply below_drew1)) hb); clear hb)))
        refine bodyPost_ret (results_list (rs := [.tmp 2, .tmp 3, .tmp 4, .tmp 5]) rfl (by simp) (.tmp (.tmp (.tmp (.tmp .nil))))) rfl ?_
        rw [HX.out]
        rw [if_neg (show ¬ 100 < f0.size by omega)]
        rw [if_neg (by intro h; cases h.1), append_empty]
        exact ⟨rfl, by repeat (first | exact HB.out | apply pw_below_drewN | apply below_drew1)⟩
      | true =>
        obtain rfl : f2 = ln := HL.out.symm
        obtain rfl : dn = ⟨#[]⟩ := HD.out
        clear HL HD
        by_cases q : 100 < f2.size
        · have hq : decide ((100 : Int) < (f2.size : Int)) = true := decide_eq_true (by omega)
          have hqi : (100 : Int) < (f2.size : Int) := by omega
          go_wp2_with (first
              | (go_at_call 15; refine (HR1.out _).mono ?_; rintro e w1 ⟨rfl, hb⟩; have HB := Aside0.mk (below_step (by repeat (first | exact HB.out | apply pw_below_drewN | apply below_drew1)) hb); clear hb; clear HR1)
              | (go_at_call 15; refine (HR2.out _).mono ?_; rintro e w2 ⟨rfl, hb⟩; have HB := Aside0.mk (below_step (by repeat (first | exact HB.out | apply pw_below_drewN | apply below_drew1)) hb); clear hb))
          repeat (go_quiet (first
              | (go_at_call 15; refine (HR1.out _).mono ?_; rintro e w1 ⟨rfl, hb⟩; have HB := Aside0.mk (below_step (by repeat (first | exact HB.out | apply pw_below_drewN | apply below_drew1)) hb); clear hb; clear HR1)
              | (go_at_call 15; refine (HR2.out _).mono ?_; rintro e w2 ⟨rfl, hb⟩; have HB := Aside0.mk (below_step (by repeat (first | exact HB.out | apply pw_below_drewN | apply below_drew1)) hb); clear hb)))
          refine bodyPost_ret (results_list (rs := [.tmp 2, .tmp 3, .tmp 4, .tmp 5]) rfl (by simp) (.tmp (.tmp (.tmp (.tmp .nil))))) rfl ?_
          rw [HX.out]
          rw [if_neg (show ¬ 100 < f0.size by omega)]
          rw [if_pos (by first | exact ⟨rfl, by omega⟩ | exact ⟨trivial, by omega⟩)]
          exact ⟨rfl, by repeat (first | exact HB.out | apply pw_below_drewN | apply below_drew1)⟩
        · have hq : decide ((100 : Int) < (f2.size : Int)) = false := decide_eq_false (by omega)
          go_wp2_with (first
              | (go_at_call 15; refine (HR1.out _).mono ?_; rintro e w1 ⟨rfl, hb⟩; have HB := Aside0.mk (below_step (by repeat (first | exact HB.out | apply pw_below_drewN | apply below_drew1)) hb); clear hb; clear HR1)
              | (go_at_call 15; refine (HR2.out _).mono ?_; rintro e w2 ⟨rfl, hb⟩; have HB := Aside0.mk (below_step (by repeat (first | exact HB.out | apply pw_below_drewN | apply below_drew1)) hb); clear hb))
          repeat (go_quiet (first
              | (go_at_call 15; refine (HR1.out _).mono ?_; rintro e w1 ⟨rfl, hb⟩; have HB := Aside0.mk (below_step (by repeat (first | exact HB.out | apply pw_below_drewN | apply below_drew1)) hb); clear hb; clear HR1)
              | (go_at_call 15; refine (HR2.out _).mono ?_; rintro e w2 ⟨rfl, hb⟩; have HB := Aside0.mk (below_step (by repeat (first | exact HB.out | apply pw_below_drewN | apply below_drew1)) hb); clear hb)))
          refine bodyPost_ret (results_list (rs := [.tmp 2, .tmp 3, .tmp 4, .tmp 5]) rfl (by simp) (.tmp (.tmp (.tmp (.tmp .nil))))) rfl ?_
          rw [HX.out]
          rw [if_neg (show ¬ 100 < f0.size by omega)]
          rw [if_neg (by intro h; omega), append_empty]
          exact ⟨rfl, by repeat (first | exact HB.out | apply pw_below_drewN | apply below_drew1)⟩
end Go.Proofs.YtdijnmcfpbceaaaGreatDoor.X

namespace Go.Proofs.YtdijnmcfpbceaaaGreatDoor.X
open Go.RowKit Go.Proofs.YtdijnmcfpbceaaaGreatDoorW.PrintWords Go.Proofs.YtdijnmcfpbceaaaGreatDoorW.PrintLast Go.Proofs.YtdijnmcfpbceaaaGreatDoorW.PrintMore Go.Proofs.YtdijnmcfpbceaaaGreatDoor.P
set_option linter.unusedVariables false
set_option linter.unusedSimpArgs false
def padL (xs : List Int) : List Int := xs ++ List.replicate (padN xs.length) 0
theorem pad_entry (xs hs : List Int) (d : ByteArray) (h1 : xs.length % 512 = 0) (h2 : hs.length % 512 = 0) : padL (xs ++ hs ++ bytesOf d) = xs ++ (hs ++ (bytesOf d ++ List.replicate (padN d.size) 0)) := by
  have e : padN (xs ++ hs ++ bytesOf d).length = padN d.size := by
    rw [List.length_append, List.length_append, bytesOf_length]
    unfold padN
    omega
  unfold padL
  rw [e]
  simp only [List.append_assoc]
theorem own_entry (n : S47) : entryB (ownE n) = entryB ⟨cutS (nameN n), n.f1, cutS (linkN n), dataN n⟩ := by
  unfold ownE linkN dataN
  by_cases h : n.f1 = 4
  · rw [if_pos h, if_pos h, if_pos h]
  · rw [if_neg h, if_neg h, if_neg h]
    rw [show cutS (⟨#[]⟩ : ByteArray) = ⟨#[]⟩ from cutS_short _ (by decide)]
set_option maxHeartbeats 4000000 in
theorem refPad_calls (w0 : World) (base : Nat) (v : Value) (xs : List Int) (w : World) (HO : w.ownsRow base 5 1 v xs.length (nums .u8 xs)) (HB : Below base w0 w) (hbase : base ≤ w.heap.size) (hl : xs.length ≤ 1000000000) :
    Calls Tryz.prog 33 #[v] w fun e w' => ∃ v', e = .returned v' ∧ w'.ownsRow base 5 1 v' (padL xs).length (nums .u8 (padL xs)) ∧ Below base w0 w' := by
  have HO0 := Aside0.mk HO
  have HB0 := Aside0.mk HB
  have hb0 := HB.size
  clear HO HB
  go_enter Tryz.func33, Tryz.ntmps33
  go_wp2_with fail
  go_loopw [0] (fun vb wr => ∃ m : Nat, m ≤ padN xs.length ∧ Aside0 (wr.ownsRow base 5 1 vb (xs ++ List.replicate m 0).length (nums .u8 (xs ++ List.replicate m 0))) ∧ Aside0 (Below base w0 wr) ∧ Aside0 (base ≤ wr.heap.size)) (fun a _ => xs.length + 512 - rowLen a)
  case atStart => exact ⟨0, by omega, ⟨by simpa using HO0.out⟩, HB0, ⟨hbase⟩⟩
  case round =>
    clear HO0 HB0
    obtain ⟨m, hm, HO, HB, HS⟩ := hrel
    have HM := Aside0.mk hm
    have HYS : Aside0 (padL xs = xs ++ List.replicate (padN xs.length) 0) := ⟨rfl⟩
    have hlen : (xs ++ List.replicate m (0 : Int)).length = xs.length + m := by rw [List.length_append, List.length_replicate]
    obtain ⟨A, c, rfl⟩ := own_slice HO.out
    have hp : padN xs.length = (512 - xs.length % 512) % 512 := rfl
    by_cases hlt : m < padN xs.length
    · have hne : ((((xs ++ List.replicate m (0 : Int)).length : Nat) : Int) % 512 != 0) = true := by
        rw [bne_iff_ne, hlen]
        omega
      have hnext : xs ++ List.replicate m (0 : Int) ++ [0] = xs ++ List.replicate (m + 1) 0 := by rw [List.append_assoc, List.replicate_succ']
      have hyl : (xs ++ List.replicate m (0 : Int)).length ≤ 1000001000 := by omega
      have HNX := Aside0.mk hnext
      have HLN := Aside0.mk hlen
      have hm1 : m + 1 ≤ padN xs.length := hlt
      have HM1 := Aside0.mk hm1
      have HP := Aside0.mk hp
      clear hnext hlen
      generalize xs ++ List.replicate m (0 : Int) = ys at *
      clear hm hlt hp hm1
      go_wp2_with (at_builtin; refine print_append_num (w0 := w0) base rfl (.tmp 7) (.tmp 8) 26 5 .u8 1 rfl Tryz.underlying26 (by kernel_rfl) (by decide) (.slice A ys.length c) ys 0 rfl rfl HO.out HB.out HS.out (by omega) ?_; intro v4 w4 ho4 hb4 hg4 _; have HO4 := Aside0.mk ho4; have HB4 := Aside0.mk hb4; have HS4 := Aside0.mk (Nat.le_trans HS.out hg4.size); clear ho4 hb4 hg4)
      have hO4 := HO4.out
      rw [HNX.out] at hO4
      obtain ⟨A4, c4, rfl⟩ := own_slice HO4.out
      refine ⟨⟨m + 1, HM1.out, ⟨hO4⟩, HB4, HS4⟩, ?_⟩
      have h1 := HLN.out
      have h2 := HM1.out
      have h3 := HP.out
      simp only [rowLen, List.length_append, List.length_singleton]
      omega
    · have hne : ((((xs ++ List.replicate m (0 : Int)).length : Nat) : Int) % 512 != 0) = false := by
        rw [bne_eq_false_iff_eq, hlen]
        omega
      have hme : m = padN xs.length := by omega
      subst hme
      rw [← HYS.out] at hne HO ⊢
      obtain ⟨ys, hys⟩ : ∃ ys, padL xs = ys := ⟨_, rfl⟩
      have HYE := Aside0.mk hys
      rw [hys] at hne HO ⊢
      clear hys
      clear hlen hp hlt hm HYS HM
      go_wp2_with fail
      go_ret
      rw [HYE.out]
      exact ⟨_, rfl, HO.out, HB.out⟩
set_option maxHeartbeats 8000000 in
set_option maxRecDepth 100000 in
theorem refLay_calls (A0 : Option Addr) (c0 : Nat) (t : List S47) (w : World) (hC : Kd.C k47 w A0 t.length t) (hc : t.length ≤ c0) (hn : t.length ≤ 100000) (hz : ∀ n ∈ t, n.f0.size ≤ 100000 ∧ n.f2.size ≤ 100000) :
    Calls Tryz.prog 11 #[.slice A0 t.length c0] w fun e w' => ∃ v, e = .returned (.tuple #[v, .int .i64 (tarR t).2]) ∧ w'.ownsRow w.heap.size 5 1 v (tarR t).1.length (nums .u8 (tarR t).1) ∧ Below w.heap.size w w' := by
  have X := Aside0.mk hC
  have HT := Aside0.mk (fun W (h : Kd.C k47 W A0 t.length t) => refTree_calls A0 c0 t W h hc hn hz)
  clear hz hC
  go_enter Tryz.func11, Tryz.ntmps11
  go_wp2_with fail
  refine (HT.out _ X.out).mono ?_
  rintro e w1 ⟨rfl, hb1⟩
  have HB1 := Aside0.mk hb1
  clear hb1 HT
  obtain ⟨bt, hbt⟩ : ∃ b, treeB t = b := ⟨_, rfl⟩
  have HBT := Aside0.mk hbt
  rw [hbt]
  clear hbt
  cases bt with
  | false =>
    have HR := Aside0.mk (show tarR t = ([], 7) from by unfold tarR; rw [if_neg (by rw [HBT.out]; simp)])
    go_wp2_with fail
    go_ret2
    rw [HR.out]
    exact ⟨.slice none 0 0, rfl, ⟨rfl, .inl ⟨rfl, rfl⟩⟩, HB1.out⟩
  | true =>
    have HR := Aside0.mk (show tarR t = (tarB t, 0) from by unfold tarR; rw [if_pos HBT.out])
    have HG := Aside0.mk (treeB_good HBT.out)
    have h400 := HG.out.2
    go_wp2_with fail
    go_loopw [4, 5] (fun v3 v4 wr => ∃ (i : Nat) (xs : List Int), v4 = .int .i64 i ∧ i ≤ t.length ∧ xs.length ≤ 16000 * i ∧ Aside0 (xs = (entsT (t.take i)).flatMap entryB) ∧ Aside0 (wr.ownsRow w.heap.size 5 1 v3 xs.length (nums .u8 xs)) ∧ Aside0 (Below w.heap.size w wr)) (fun _ b _ => t.length - (intOf b).toNat)
    case atStart => exact ⟨0, [], rfl, by omega, by simp, ⟨rfl⟩, ⟨⟨rfl, .inl ⟨rfl, rfl⟩⟩⟩, HB1⟩
    case round =>
      clear HB1
      obtain ⟨i, xs, rfl, hi, hxl, HXS, HO, HB⟩ := hrel
      obtain ⟨A3, c3, rfl⟩ := own_slice HO.out
      by_cases hil : i < t.length
      · have hic : decide ((i : Int) < (t.length : Int)) = true := decide_eq_true (by omega)
        have hi0 : 0 ≤ (i : Int) := by omega
        obtain ⟨ad, rfl, z0, z1, z2⟩ := at_T47 (Kd.C_below X.out HB.out) (i : Int) (by omega) (by omega)
        simp only [Int.toNat_natCast] at z0 z1 z2
        have HX := Aside0.mk (rdN_get t i hil)
        have HS := Aside0.mk (HG.out.1 t[i] (List.getElem_mem _))
        rw [← HX.out] at HS
        generalize hrd : rd_T47 t (i : Int) = x at *
        have HRd := Aside0.mk hrd
        clear hrd
        obtain ⟨hs0, hs2⟩ := HS.out
        have hbd := (ents_bound x (by omega) (by omega)).2
        have HXi := Aside0.mk hil
        have HStep := Aside0.mk (show (entsT (t.take (i + 1))).flatMap entryB = (entsT (t.take i)).flatMap entryB ++ (entsN x).flatMap entryB from by
          rw [List.take_succ_eq_append_getElem hil, ← HX.out]
          unfold entsT
          rw [List.flatMap_append, List.flatMap_append]
          simp only [List.flatMap_cons, List.flatMap_nil, List.append_nil])
        have HLe := Aside0.mk (show ((entsT (t.take (i + 1))).flatMap entryB).length ≤ 16000 * (i + 1) from by
          rw [HStep.out, ← HXS.out, List.length_append]
          omega)
        have HM0 := Aside0.mk (show xs.length % 512 = 0 from by rw [HXS.out]; exact flat_mod _)
        have hes := extraN_size x (by omega) (by omega)
        have HNd := Aside0.mk (show (entsN x).flatMap entryB = (if (extraN x).size = 0 then [] else entryB ⟨⟨#[112, 97, 120]⟩, 5, ⟨#[]⟩, extraN x⟩) ++ entryB ⟨cutS (nameN x), x.f1, cutS (linkN x), dataN x⟩ from by
          unfold entsN
          rw [List.flatMap_append, ← own_entry]
          split
          · simp
          · simp)
        have hdn : (dataN x).size ≤ 400 := by
          unfold dataN
          split
          · exact (by decide : (⟨#[]⟩ : ByteArray).size ≤ 400)
          · exact hs2
        have HRP := Aside0.mk (refParts_calls x wr (by omega) (by omega))
        have HC1 := Aside0.mk (refCut13_eq (nameN x))
        have HC2 := Aside0.mk (refCut13_eq (linkN x))
        generalize nameN x = nm at *
        generalize linkN x = ln at *
        generalize dataN x = dn at *
        obtain ⟨b0, hb0⟩ : ∃ b, ((extraN x).toList != []) = b := ⟨_, rfl⟩
        have HX0 := Aside0.mk hb0
        generalize extraN x = ex at *
        have hb0a : (ex.toList == []) = !b0 := by rw [← hb0]; simp [bne]
        go_wp2_with fail
        refine HRP.out.mono ?_
        rintro e w2 ⟨rfl, hb2⟩
        have HB2 := Aside0.mk (below_step HB.out hb2)
        have HO2 := Aside0.mk (ownG HO.out hb2)
        clear hb2 HRP HO HB z0 z1 z2
        cases b0 with
        | false =>
          have HNode := Aside0.mk (show [] ++ entryB ⟨cutS nm, x.f1, cutS ln, dn⟩ = (entsN x).flatMap entryB from by
            rw [HNd.out, if_pos ((toList_nil _).1 (bne_eq_false_iff_eq.1 HX0.out))])
          have HYE := Aside0.mk (show xs.length % 512 = 0 ∧ xs = (entsT (t.take i)).flatMap entryB ++ [] from ⟨HM0.out, by rw [List.append_nil]; exact HXS.out⟩)
          have HOy := HO2
          have HBy := HB2
          have hyl : xs.length ≤ 16000 * i + 8000 := by omega
          clear HO2 HB2 HXS HM0 hbd hxl
          generalize A3 = Ay at *
          generalize c3 = cy at *
          generalize xs = ys at *
          generalize w2 = W at *
          obtain ⟨⟨hs, ok⟩, hlr⟩ : ∃ r, layR (cutS nm) x.f1 (dn.size : Int) (cutS ln) = r := ⟨_, rfl⟩
          have hlm : hs.length ≤ 512 := by
            have := layR_length (cutS nm) x.f1 (dn.size : Int) (cutS ln)
            rw [hlr] at this
            exact this
          have HM5 := Aside0.mk (show hs.length % 512 = 0 from by
            have := layR_mod (cutS nm) x.f1 (dn.size : Int) (cutS ln)
            rw [hlr] at this
            exact this)
          have HEn := Aside0.mk (show entryB ⟨cutS nm, x.f1, cutS ln, dn⟩ = hs ++ (bytesOf dn ++ List.replicate (padN dn.size) 0) from by unfold entryB; rw [hlr])
          obtain ⟨K, hK⟩ := ref_lay_eq (cutS nm) x.f1 (dn.size : Int) (cutS ln) (by omega)
          have HLy := Aside0.mk (show hogsheadref12_Lay.f K (cutS nm) x.f1 (dn.size : Int) (cutS ln) = some (hs, ok) from by
            have := hK K (Nat.le_refl _)
            rw [hlr] at this
            exact this)
          clear hK hlr
          obtain ⟨_, hz, z0, z1, z2⟩ := at_T47 (Kd.C_below X.out HBy.out) (i : Int) (by omega) (by omega)
          cases hz
          simp only [Int.toNat_natCast] at z0 z1 z2
          rw [HRd.out] at z0 z1 z2
          go_wp2_with fail
          refine start_ (n := 17) (S := fun w' => Below W.heap.size W w') (ds := []) (bmG 17 0) (by kernel_rfl) rfl (by kernel_rfl) (below_drew1 (Below.refl _ _)) (fun hS => ?_)
          generalize W.drew = wd at hS ⊢
          refine pure_ (i := 0) (N := some 48) (v := ?_) (a' := ?_) (bmG 17 1) rfl rfl (by kernel_rfl) (fun _ _ _ h => h) (Or.inl ⟨by rfl, ?_⟩) ?_ ?_
          rotate_left
          · intro w'
            go_simp
            with_reducible rfl
          rotate_left
          · simp only [Act.put, List.setIfInBounds_toArray, List.set_cons_zero, List.set_cons_succ, i64_w, i32_w]
            rfl
          refine pure_ (i := 2) (N := some 50) (v := ?_) (a' := ?_) (bmG 17 5) rfl rfl (by kernel_rfl) (fun _ _ _ h => h) (Or.inl ⟨by rfl, ?_⟩) ?_ ?_
          rotate_left
          · intro w'
            go_simp
            with_reducible rfl
          rotate_left
          · simp only [Act.put, List.setIfInBounds_toArray, List.set_cons_zero, List.set_cons_succ, i64_w, i32_w]
            rfl
          refine pure_ (i := 3) (N := some 51) (v := ?_) (a' := ?_) (bmG 17 13) rfl rfl (by kernel_rfl) (fun _ _ _ h => h) (Or.inl ⟨by rfl, ?_⟩) ?_ ?_
          rotate_left
          · intro w'
            go_simp
            with_reducible rfl
          rotate_left
          · simp only [Act.put, List.setIfInBounds_toArray, List.set_cons_zero, List.set_cons_succ, i64_w, i32_w]
            rfl
          refine pure_ (i := 4) (N := some 52) (v := ?_) (a' := ?_) (bmG 17 29) rfl rfl (by kernel_rfl) (fun _ _ _ h => h) (Or.inl ⟨by rfl, ?_⟩) ?_ ?_
          rotate_left
          · intro w'
            go_simp
            with_reducible rfl
          rotate_left
          · simp only [Act.put, List.setIfInBounds_toArray, List.set_cons_zero, List.set_cons_succ, i64_w, i32_w]
            rfl
          refine pure_ (i := 5) (N := some 53) (v := ?_) (a' := ?_) (bmG 17 61) rfl rfl (by kernel_rfl) (fun _ _ _ h => h) (Or.inl ⟨by rfl, ?_⟩) ?_ ?_
          rotate_left
          · intro w'
            go_simp
            with_reducible rfl
          rotate_left
          · simp only [Act.put, List.setIfInBounds_toArray, List.set_cons_zero, List.set_cons_succ, i64_w, i32_w]
            rfl
          refine take_ (i := 6) (N := some 54) (v := ?_) (a' := ?_) (bmG 17 125) rfl rfl (by kernel_rfl) (fun _ _ _ h => h) (Or.inl ⟨by rfl, ?_⟩) hS ?_ ?_
          rotate_left
          · intro w' hS
            have s0 := pw_cell_below hS z0
            have s1 := pw_cell_below hS z1
            have s2 := pw_cell_below hS z2
            go_simp
            with_reducible rfl
          rotate_left
          · simp only [Act.put, List.setIfInBounds_toArray, List.set_cons_zero, List.set_cons_succ, i64_w, i32_w]
            rfl
          refine pure_ (i := 7) (N := some 55) (v := ?_) (a' := ?_) (bmG 17 253) rfl rfl (by kernel_rfl) (fun _ _ _ h => h) (Or.inl ⟨by rfl, ?_⟩) ?_ ?_
          rotate_left
          · intro w'
            go_simp
            with_reducible rfl
          rotate_left
          · simp only [Act.put, List.setIfInBounds_toArray, List.set_cons_zero, List.set_cons_succ, i64_w, i32_w]
            rfl
          refine pure_ (i := 8) (N := some 56) (v := ?_) (a' := ?_) (bmG 17 509) rfl rfl (by kernel_rfl) (fun _ _ _ h => h) (Or.inl ⟨by rfl, ?_⟩) ?_ ?_
          rotate_left
          · intro w'
            go_simp
            with_reducible rfl
          rotate_left
          · simp only [Act.put, List.setIfInBounds_toArray, List.set_cons_zero, List.set_cons_succ, i64_w, i32_w]
            rfl
          refine pure_ (i := 9) (N := some 57) (v := ?_) (a' := ?_) (bmG 17 1021) rfl rfl (by kernel_rfl) (fun _ _ _ h => h) (Or.inl ⟨by rfl, ?_⟩) ?_ ?_
          rotate_left
          · intro w'
            go_simp
            with_reducible rfl
          rotate_left
          · simp only [Act.put, List.setIfInBounds_toArray, List.set_cons_zero, List.set_cons_succ, i64_w, i32_w]
            rfl
          refine one_ (i := 1) (N := some 49) (bmG 17 1023) rfl rfl (by kernel_rfl) (by decide) (fun Kz hKz => ?_)
          refine goes_ Tryz.func34 (by kernel_rfl) rfl #[.string nm] (by rfl) rfl rfl (by (try simp only [List.map_toArray, List.map_cons, List.map_nil]); first | done | rfl) ?_
          refine (hogsheadref13_cut.calls nm (cutS nm) _ HC1.out).mono ?_
          rintro e wc ⟨rfl, hb⟩
          refine ⟨_, rfl, ?_⟩
          refine hKz.out _ _ (below_step hS hb) (fun hS => ?_)
          clear hKz Kz
          refine norm_ (a' := ?_) ?_ ?_
          rotate_left
          · show Act.put _ (some 49) _ = _
            simp only [Act.put, List.setIfInBounds_toArray, List.set_cons_zero, List.set_cons_succ, i64_w, i32_w]
            rfl
          refine one_ (i := 10) (N := some 58) (bmG 17 2047) rfl rfl (by kernel_rfl) (by decide) (fun Kz hKz => ?_)
          refine goes_ Tryz.func34 (by kernel_rfl) rfl #[.string ln] (by rfl) rfl rfl (by (try simp only [List.map_toArray, List.map_cons, List.map_nil]); first | done | rfl) ?_
          refine (hogsheadref13_cut.calls ln (cutS ln) _ HC2.out).mono ?_
          rintro e wc ⟨rfl, hb⟩
          refine ⟨_, rfl, ?_⟩
          refine hKz.out _ _ (below_step hS hb) (fun hS => ?_)
          clear hKz Kz
          refine norm_ (a' := ?_) ?_ ?_
          rotate_left
          · show Act.put _ (some 58) _ = _
            simp only [Act.put, List.setIfInBounds_toArray, List.set_cons_zero, List.set_cons_succ, i64_w, i32_w]
            rfl
          refine one_ (i := 11) (N := some 59) (bmG 17 4095) rfl rfl (by kernel_rfl) (by decide) (fun Kz hKz => ?_)
          refine goes_ Tryz.func32 (by kernel_rfl) rfl #[.string (cutS nm), .int .i64 x.f1, .int .i64 (dn.size : Int), .string (cutS ln)] (by rfl) rfl rfl (by (try simp only [List.map_toArray, List.map_cons, List.map_nil]); first | done | rfl) ?_
          refine (hogsheadref12_Lay.calls K (cutS nm) x.f1 (dn.size : Int) (cutS ln) hs ok _ HLy.out).mono ?_
          rintro e wc ⟨vh, rfl, hR, hb⟩
          refine ⟨_, rfl, ?_⟩
          refine hKz.out _ _ (below_step hS hb) (fun hS => ?_)
          obtain ⟨Ah, ch, rfl, hch, hCh⟩ := Kd.R_reads hR
          have HCh := Aside0.mk hCh
          clear hR hCh hb
          clear hKz Kz
          refine norm_ (a' := ?_) ?_ ?_
          rotate_left
          · show Act.put _ (some 59) _ = _
            simp only [Act.put, List.setIfInBounds_toArray, List.set_cons_zero, List.set_cons_succ, i64_w, i32_w]
            rfl
          refine pure_ (i := 12) (N := some 47) (v := ?_) (a' := ?_) (bmG 17 8191) rfl rfl (by kernel_rfl) (fun _ _ _ h => h) (Or.inl ⟨by rfl, ?_⟩) ?_ ?_
          rotate_left
          · intro w'
            go_simp
            with_reducible rfl
          rotate_left
          · simp only [Act.put, List.setIfInBounds_toArray, List.set_cons_zero, List.set_cons_succ, i64_w, i32_w]
            rfl
          refine pure_ (i := 13) (N := some 60) (v := ?_) (a' := ?_) (bmG 17 16383) rfl rfl (by kernel_rfl) (fun _ _ _ h => h) (Or.inl ⟨by rfl, ?_⟩) ?_ ?_
          rotate_left
          · intro w'
            go_simp
            with_reducible rfl
          rotate_left
          · simp only [Act.put, List.setIfInBounds_toArray, List.set_cons_zero, List.set_cons_succ, i64_w, i32_w]
            rfl
          refine pure_ (i := 14) (N := some 61) (v := ?_) (a' := ?_) (bmG 17 32767) rfl rfl (by kernel_rfl) (fun _ _ _ h => h) (Or.inl ⟨by rfl, ?_⟩) ?_ ?_
          rotate_left
          · intro w'
            go_simp
            with_reducible rfl
          rotate_left
          · simp only [Act.put, List.setIfInBounds_toArray, List.set_cons_zero, List.set_cons_succ, i64_w, i32_w]
            rfl
          refine pure_ (i := 15) (N := some 12) (v := ?_) (a' := ?_) (bmG 17 65535) rfl rfl (by kernel_rfl) (fun _ _ _ h => h) (Or.inl ⟨by rfl, ?_⟩) ?_ ?_
          rotate_left
          · intro w'
            go_simp
            with_reducible rfl
          rotate_left
          · simp only [Act.put, List.setIfInBounds_toArray, List.set_cons_zero, List.set_cons_succ, i64_w, i32_w]
            rfl
          refine pure_ (i := 16) (N := some 13) (v := ?_) (a' := ?_) (bmG 17 131071) rfl rfl (by kernel_rfl) (fun _ _ _ h => h) (Or.inl ⟨by rfl, ?_⟩) ?_ ?_
          rotate_left
          · intro w'
            go_simp
            with_reducible rfl
          rotate_left
          · simp only [Act.put, List.setIfInBounds_toArray, List.set_cons_zero, List.set_cons_succ, i64_w, i32_w]
            rfl
          refine done_ (by kernel_rfl) ?_
          have HOr := Aside0.mk (ownG HOy.out hS)
          have HBr := Aside0.mk (below_step HBy.out hS)
          have hsr := HBr.out.size
          clear hS z0 z1 z2 HOy HBy
          go_wp2_with (first
            | (at_builtin; (refine print_append_row (w0 := w) w.heap.size rfl (.tmp 62) (.tmp 63) 26 5 .u8 1 rfl Tryz.underlying26 (by kernel_rfl) (by decide) (.slice Ay ys.length cy) ys hs Ah hs.length ch rfl rfl HOr.out (Kd.reads_of_C (d := (0 : Int)) HCh.out) HBr.out HBr.out.size (by omega) ?_)
               intro v2 w2 ho2 hb2 hg2 _
               have HO2 := Aside0.mk ho2
               have HB2 := Aside0.mk hb2
               have HS2 := Aside0.mk (Nat.le_trans HBr.out.size hg2.size)
               clear ho2 hb2 hg2)
            | (at_builtin; (refine print_append_str (w0 := w) w.heap.size rfl (.tmp 64) (.tmp 65) 26 9 5 rfl Tryz.underlying26 Tryz.underlying9 (by kernel_rfl) v2 (ys ++ hs) dn rfl rfl HO2.out HB2.out HS2.out (by rw [List.length_append]; omega) ?_)
               intro v3 w3 ho3 hb3 hg3
               generalize hzs : ys ++ hs ++ bytesOf dn = zs at ho3
               have HZS := Aside0.mk hzs
               have hzl : zs.length ≤ 16000 * i + 8000 + 512 + 100000 + 512 + 300000 := by
                 rw [← hzs]
                 simp only [List.length_append, bytesOf_length]
                 omega
               clear hzs
               have HO3 := Aside0.mk ho3
               have HB3 := Aside0.mk hb3
               have HS3 := Aside0.mk (Nat.le_trans HS2.out hg3.size)
               clear ho3 hb3 hg3))
          refine (refPad_calls w w.heap.size v3 zs w3 HO3.out HB3.out HS3.out (by omega)).mono ?_
          rintro e w4 ⟨v4, rfl, ho4, hb4⟩
          have HE4 := Aside0.mk (show padL zs = (entsT (t.take (i + 1))).flatMap entryB from by
            rw [← HZS.out, pad_entry _ _ _ HYE.out.1 HM5.out, ← HEn.out, HYE.out.2, List.append_assoc, HNode.out, ← HStep.out])
          rw [HE4.out] at ho4
          have HO4 := Aside0.mk ho4
          have HB4 := Aside0.mk hb4
          clear ho4 hb4
          have hle := HLe.out
          go_wp2_with fail
          exact ⟨⟨i + 1, _, by simp, by omega, hle, ⟨rfl⟩, HO4, HB4⟩, by simp only [intOf]; omega⟩
        | true =>
          obtain ⟨⟨hs, ok⟩, hlr⟩ : ∃ r, layR ⟨#[112, 97, 120]⟩ 5 (ex.size : Int) ⟨#[]⟩ = r := ⟨_, rfl⟩
          have hlm : hs.length ≤ 512 := by
            have := layR_length ⟨#[112, 97, 120]⟩ 5 (ex.size : Int) ⟨#[]⟩
            rw [hlr] at this
            exact this
          have HM5 := Aside0.mk (show hs.length % 512 = 0 from by
            have := layR_mod ⟨#[112, 97, 120]⟩ 5 (ex.size : Int) ⟨#[]⟩
            rw [hlr] at this
            exact this)
          have HEn := Aside0.mk (show entryB ⟨⟨#[112, 97, 120]⟩, 5, ⟨#[]⟩, ex⟩ = hs ++ (bytesOf ex ++ List.replicate (padN ex.size) 0) from by unfold entryB; rw [hlr])
          have HNode := Aside0.mk (show entryB ⟨⟨#[112, 97, 120]⟩, 5, ⟨#[]⟩, ex⟩ ++ entryB ⟨cutS nm, x.f1, cutS ln, dn⟩ = (entsN x).flatMap entryB from by
            rw [HNd.out, if_neg (fun h => by
              have h1 := HX0.out
              rw [(toList_nil _).2 h] at h1
              cases h1)])
          obtain ⟨K, hK⟩ := ref_lay_eq ⟨#[112, 97, 120]⟩ 5 (ex.size : Int) ⟨#[]⟩ (by omega)
          have HLy := Aside0.mk (show hogsheadref12_Lay.f K ⟨#[112, 97, 120]⟩ 5 (ex.size : Int) ⟨#[]⟩ = some (hs, ok) from by
            have := hK K (Nat.le_refl _)
            rw [hlr] at this
            exact this)
          clear hK hlr
          go_wp2_with fail
          refine (hogsheadref12_Lay.calls K ⟨#[112, 97, 120]⟩ 5 (ex.size : Int) ⟨#[]⟩ hs ok w2 HLy.out).mono ?_
          rintro e wq ⟨vh, rfl, hR, hbq⟩
          obtain ⟨Ah, ch, rfl, hch, hCh⟩ := Kd.R_reads hR
          have HCh := Aside0.mk hCh
          have HBq := Aside0.mk (below_step HB2.out hbq)
          have HOq := Aside0.mk (ownG HO2.out hbq)
          have hsq := HBq.out.size
          clear hR hCh hbq HB2 HO2
          go_wp2_with (first
            | (at_builtin; (refine print_append_row (w0 := w) w.heap.size rfl (.tmp 41) (.tmp 42) 26 5 .u8 1 rfl Tryz.underlying26 (by kernel_rfl) (by decide) (.slice A3 xs.length c3) xs hs Ah hs.length ch rfl rfl HOq.out (Kd.reads_of_C (d := (0 : Int)) HCh.out) HBq.out HBq.out.size (by omega) ?_)
               intro v2 w2 ho2 hb2 hg2 _
               have HO2 := Aside0.mk ho2
               have HB2 := Aside0.mk hb2
               have HS2 := Aside0.mk (Nat.le_trans HBq.out.size hg2.size)
               clear ho2 hb2 hg2)
            | (at_builtin; (refine print_append_str (w0 := w) w.heap.size rfl (.tmp 43) (.tmp 44) 26 9 5 rfl Tryz.underlying26 Tryz.underlying9 (by kernel_rfl) v2 (xs ++ hs) ex rfl rfl HO2.out HB2.out HS2.out (by rw [List.length_append]; omega) ?_)
               intro v3 w3 ho3 hb3 hg3
               generalize hzs : xs ++ hs ++ bytesOf ex = zs at ho3
               have HZS := Aside0.mk hzs
               have hzl : zs.length ≤ 16000 * i + 8000 + 512 + 100000 + 512 + 300000 := by
                 rw [← hzs]
                 simp only [List.length_append, bytesOf_length]
                 omega
               clear hzs
               have HO3 := Aside0.mk ho3
               have HB3 := Aside0.mk hb3
               have HS3 := Aside0.mk (Nat.le_trans HS2.out hg3.size)
               clear ho3 hb3 hg3))
          refine (refPad_calls w w.heap.size v3 zs w3 HO3.out HB3.out HS3.out (by omega)).mono ?_
          rintro e w4 ⟨v4, rfl, ho4, hb4⟩
          have HYE := Aside0.mk (show (padL zs).length % 512 = 0 ∧ padL zs = (entsT (t.take i)).flatMap entryB ++ entryB ⟨⟨#[112, 97, 120]⟩, 5, ⟨#[]⟩, ex⟩ from by
            have e : padL zs = xs ++ entryB ⟨⟨#[112, 97, 120]⟩, 5, ⟨#[]⟩, ex⟩ := by rw [← HZS.out, pad_entry _ _ _ HM0.out HM5.out, ← HEn.out]
            refine ⟨?_, by rw [e, HXS.out]⟩
            rw [e, List.length_append]
            have h1 := HM0.out
            have h2 := entryB_mod ⟨⟨#[112, 97, 120]⟩, 5, ⟨#[]⟩, ex⟩
            omega)
          have hyl : (padL zs).length ≤ 16000 * i + 8000 := by
            have e : padL zs = xs ++ entryB ⟨⟨#[112, 97, 120]⟩, 5, ⟨#[]⟩, ex⟩ := by rw [← HZS.out, pad_entry _ _ _ HM0.out HM5.out, ← HEn.out]
            rw [e, List.length_append]
            have h3 := entryB_len ⟨⟨#[112, 97, 120]⟩, 5, ⟨#[]⟩, ex⟩
            have h4 : (⟨⟨#[112, 97, 120]⟩, 5, ⟨#[]⟩, ex⟩ : EntT).data.size = ex.size := rfl
            omega
          have HOy := Aside0.mk ho4
          have HBy := Aside0.mk hb4
          clear ho4 hb4 HZS HO2 HB2 HS2 HO3 HB3 HS3 HOq HBq HCh HLy HM5 HEn HXS HM0 hzl hsq hlm
          generalize padL zs = ys at *
          obtain ⟨Ay, cy, rfl⟩ := own_slice HOy.out
          generalize w4 = W at *
          obtain ⟨⟨hs, ok⟩, hlr⟩ : ∃ r, layR (cutS nm) x.f1 (dn.size : Int) (cutS ln) = r := ⟨_, rfl⟩
          have hlm : hs.length ≤ 512 := by
            have := layR_length (cutS nm) x.f1 (dn.size : Int) (cutS ln)
            rw [hlr] at this
            exact this
          have HM5 := Aside0.mk (show hs.length % 512 = 0 from by
            have := layR_mod (cutS nm) x.f1 (dn.size : Int) (cutS ln)
            rw [hlr] at this
            exact this)
          have HEn := Aside0.mk (show entryB ⟨cutS nm, x.f1, cutS ln, dn⟩ = hs ++ (bytesOf dn ++ List.replicate (padN dn.size) 0) from by unfold entryB; rw [hlr])
          obtain ⟨K, hK⟩ := ref_lay_eq (cutS nm) x.f1 (dn.size : Int) (cutS ln) (by omega)
          have HLy := Aside0.mk (show hogsheadref12_Lay.f K (cutS nm) x.f1 (dn.size : Int) (cutS ln) = some (hs, ok) from by
            have := hK K (Nat.le_refl _)
            rw [hlr] at this
            exact this)
          clear hK hlr
          obtain ⟨_, hz, z0, z1, z2⟩ := at_T47 (Kd.C_below X.out HBy.out) (i : Int) (by omega) (by omega)
          cases hz
          simp only [Int.toNat_natCast] at z0 z1 z2
          rw [HRd.out] at z0 z1 z2
          go_wp2_with fail
          refine start_ (n := 17) (S := fun w' => Below W.heap.size W w') (ds := []) (bmG 17 0) (by kernel_rfl) rfl (by kernel_rfl) (below_drew1 (Below.refl _ _)) (fun hS => ?_)
          generalize W.drew = wd at hS ⊢
          refine pure_ (i := 0) (N := some 48) (v := ?_) (a' := ?_) (bmG 17 1) rfl rfl (by kernel_rfl) (fun _ _ _ h => h) (Or.inl ⟨by rfl, ?_⟩) ?_ ?_
          rotate_left
          · intro w'
            go_simp
            with_reducible rfl
          rotate_left
          · simp only [Act.put, List.setIfInBounds_toArray, List.set_cons_zero, List.set_cons_succ, i64_w, i32_w]
            rfl
          refine pure_ (i := 2) (N := some 50) (v := ?_) (a' := ?_) (bmG 17 5) rfl rfl (by kernel_rfl) (fun _ _ _ h => h) (Or.inl ⟨by rfl, ?_⟩) ?_ ?_
          rotate_left
          · intro w'
            go_simp
            with_reducible rfl
          rotate_left
          · simp only [Act.put, List.setIfInBounds_toArray, List.set_cons_zero, List.set_cons_succ, i64_w, i32_w]
            rfl
          refine pure_ (i := 3) (N := some 51) (v := ?_) (a' := ?_) (bmG 17 13) rfl rfl (by kernel_rfl) (fun _ _ _ h => h) (Or.inl ⟨by rfl, ?_⟩) ?_ ?_
          rotate_left
          · intro w'
            go_simp
            with_reducible rfl
          rotate_left
          · simp only [Act.put, List.setIfInBounds_toArray, List.set_cons_zero, List.set_cons_succ, i64_w, i32_w]
            rfl
          refine pure_ (i := 4) (N := some 52) (v := ?_) (a' := ?_) (bmG 17 29) rfl rfl (by kernel_rfl) (fun _ _ _ h => h) (Or.inl ⟨by rfl, ?_⟩) ?_ ?_
          rotate_left
          · intro w'
            go_simp
            with_reducible rfl
          rotate_left
          · simp only [Act.put, List.setIfInBounds_toArray, List.set_cons_zero, List.set_cons_succ, i64_w, i32_w]
            rfl
          refine pure_ (i := 5) (N := some 53) (v := ?_) (a' := ?_) (bmG 17 61) rfl rfl (by kernel_rfl) (fun _ _ _ h => h) (Or.inl ⟨by rfl, ?_⟩) ?_ ?_
          rotate_left
          · intro w'
            go_simp
            with_reducible rfl
          rotate_left
          · simp only [Act.put, List.setIfInBounds_toArray, List.set_cons_zero, List.set_cons_succ, i64_w, i32_w]
            rfl
          refine take_ (i := 6) (N := some 54) (v := ?_) (a' := ?_) (bmG 17 125) rfl rfl (by kernel_rfl) (fun _ _ _ h => h) (Or.inl ⟨by rfl, ?_⟩) hS ?_ ?_
          rotate_left
          · intro w' hS
            have s0 := pw_cell_below hS z0
            have s1 := pw_cell_below hS z1
            have s2 := pw_cell_below hS z2
            go_simp
            with_reducible rfl
          rotate_left
          · simp only [Act.put, List.setIfInBounds_toArray, List.set_cons_zero, List.set_cons_succ, i64_w, i32_w]
            rfl
          refine pure_ (i := 7) (N := some 55) (v := ?_) (a' := ?_) (bmG 17 253) rfl rfl (by kernel_rfl) (fun _ _ _ h => h) (Or.inl ⟨by rfl, ?_⟩) ?_ ?_
          rotate_left
          · intro w'
            go_simp
            with_reducible rfl
          rotate_left
          · simp only [Act.put, List.setIfInBounds_toArray, List.set_cons_zero, List.set_cons_succ, i64_w, i32_w]
            rfl
          refine pure_ (i := 8) (N := some 56) (v := ?_) (a' := ?_) (bmG 17 509) rfl rfl (by kernel_rfl) (fun _ _ _ h => h) (Or.inl ⟨by rfl, ?_⟩) ?_ ?_
          rotate_left
          · intro w'
            go_simp
            with_reducible rfl
          rotate_left
          · simp only [Act.put, List.setIfInBounds_toArray, List.set_cons_zero, List.set_cons_succ, i64_w, i32_w]
            rfl
          refine pure_ (i := 9) (N := some 57) (v := ?_) (a' := ?_) (bmG 17 1021) rfl rfl (by kernel_rfl) (fun _ _ _ h => h) (Or.inl ⟨by rfl, ?_⟩) ?_ ?_
          rotate_left
          · intro w'
            go_simp
            with_reducible rfl
          rotate_left
          · simp only [Act.put, List.setIfInBounds_toArray, List.set_cons_zero, List.set_cons_succ, i64_w, i32_w]
            rfl
          refine one_ (i := 1) (N := some 49) (bmG 17 1023) rfl rfl (by kernel_rfl) (by decide) (fun Kz hKz => ?_)
          refine goes_ Tryz.func34 (by kernel_rfl) rfl #[.string nm] (by rfl) rfl rfl (by (try simp only [List.map_toArray, List.map_cons, List.map_nil]); first | done | rfl) ?_
          refine (hogsheadref13_cut.calls nm (cutS nm) _ HC1.out).mono ?_
          rintro e wc ⟨rfl, hb⟩
          refine ⟨_, rfl, ?_⟩
          refine hKz.out _ _ (below_step hS hb) (fun hS => ?_)
          clear hKz Kz
          refine norm_ (a' := ?_) ?_ ?_
          rotate_left
          · show Act.put _ (some 49) _ = _
            simp only [Act.put, List.setIfInBounds_toArray, List.set_cons_zero, List.set_cons_succ, i64_w, i32_w]
            rfl
          refine one_ (i := 10) (N := some 58) (bmG 17 2047) rfl rfl (by kernel_rfl) (by decide) (fun Kz hKz => ?_)
          refine goes_ Tryz.func34 (by kernel_rfl) rfl #[.string ln] (by rfl) rfl rfl (by (try simp only [List.map_toArray, List.map_cons, List.map_nil]); first | done | rfl) ?_
          refine (hogsheadref13_cut.calls ln (cutS ln) _ HC2.out).mono ?_
          rintro e wc ⟨rfl, hb⟩
          refine ⟨_, rfl, ?_⟩
          refine hKz.out _ _ (below_step hS hb) (fun hS => ?_)
          clear hKz Kz
          refine norm_ (a' := ?_) ?_ ?_
          rotate_left
          · show Act.put _ (some 58) _ = _
            simp only [Act.put, List.setIfInBounds_toArray, List.set_cons_zero, List.set_cons_succ, i64_w, i32_w]
            rfl
          refine one_ (i := 11) (N := some 59) (bmG 17 4095) rfl rfl (by kernel_rfl) (by decide) (fun Kz hKz => ?_)
          refine goes_ Tryz.func32 (by kernel_rfl) rfl #[.string (cutS nm), .int .i64 x.f1, .int .i64 (dn.size : Int), .string (cutS ln)] (by rfl) rfl rfl (by (try simp only [List.map_toArray, List.map_cons, List.map_nil]); first | done | rfl) ?_
          refine (hogsheadref12_Lay.calls K (cutS nm) x.f1 (dn.size : Int) (cutS ln) hs ok _ HLy.out).mono ?_
          rintro e wc ⟨vh, rfl, hR, hb⟩
          refine ⟨_, rfl, ?_⟩
          refine hKz.out _ _ (below_step hS hb) (fun hS => ?_)
          obtain ⟨Ah, ch, rfl, hch, hCh⟩ := Kd.R_reads hR
          have HCh := Aside0.mk hCh
          clear hR hCh hb
          clear hKz Kz
          refine norm_ (a' := ?_) ?_ ?_
          rotate_left
          · show Act.put _ (some 59) _ = _
            simp only [Act.put, List.setIfInBounds_toArray, List.set_cons_zero, List.set_cons_succ, i64_w, i32_w]
            rfl
          refine pure_ (i := 12) (N := some 47) (v := ?_) (a' := ?_) (bmG 17 8191) rfl rfl (by kernel_rfl) (fun _ _ _ h => h) (Or.inl ⟨by rfl, ?_⟩) ?_ ?_
          rotate_left
          · intro w'
            go_simp
            with_reducible rfl
          rotate_left
          · simp only [Act.put, List.setIfInBounds_toArray, List.set_cons_zero, List.set_cons_succ, i64_w, i32_w]
            rfl
          refine pure_ (i := 13) (N := some 60) (v := ?_) (a' := ?_) (bmG 17 16383) rfl rfl (by kernel_rfl) (fun _ _ _ h => h) (Or.inl ⟨by rfl, ?_⟩) ?_ ?_
          rotate_left
          · intro w'
            go_simp
            with_reducible rfl
          rotate_left
          · simp only [Act.put, List.setIfInBounds_toArray, List.set_cons_zero, List.set_cons_succ, i64_w, i32_w]
            rfl
          refine pure_ (i := 14) (N := some 61) (v := ?_) (a' := ?_) (bmG 17 32767) rfl rfl (by kernel_rfl) (fun _ _ _ h => h) (Or.inl ⟨by rfl, ?_⟩) ?_ ?_
          rotate_left
          · intro w'
            go_simp
            with_reducible rfl
          rotate_left
          · simp only [Act.put, List.setIfInBounds_toArray, List.set_cons_zero, List.set_cons_succ, i64_w, i32_w]
            rfl
          refine pure_ (i := 15) (N := some 12) (v := ?_) (a' := ?_) (bmG 17 65535) rfl rfl (by kernel_rfl) (fun _ _ _ h => h) (Or.inl ⟨by rfl, ?_⟩) ?_ ?_
          rotate_left
          · intro w'
            go_simp
            with_reducible rfl
          rotate_left
          · simp only [Act.put, List.setIfInBounds_toArray, List.set_cons_zero, List.set_cons_succ, i64_w, i32_w]
            rfl
          refine pure_ (i := 16) (N := some 13) (v := ?_) (a' := ?_) (bmG 17 131071) rfl rfl (by kernel_rfl) (fun _ _ _ h => h) (Or.inl ⟨by rfl, ?_⟩) ?_ ?_
          rotate_left
          · intro w'
            go_simp
            with_reducible rfl
          rotate_left
          · simp only [Act.put, List.setIfInBounds_toArray, List.set_cons_zero, List.set_cons_succ, i64_w, i32_w]
            rfl
          refine done_ (by kernel_rfl) ?_
          have HOr := Aside0.mk (ownG HOy.out hS)
          have HBr := Aside0.mk (below_step HBy.out hS)
          have hsr := HBr.out.size
          clear hS z0 z1 z2 HOy HBy
          go_wp2_with (first
            | (at_builtin; (refine print_append_row (w0 := w) w.heap.size rfl (.tmp 62) (.tmp 63) 26 5 .u8 1 rfl Tryz.underlying26 (by kernel_rfl) (by decide) (.slice Ay ys.length cy) ys hs Ah hs.length ch rfl rfl HOr.out (Kd.reads_of_C (d := (0 : Int)) HCh.out) HBr.out HBr.out.size (by omega) ?_)
               intro v2 w2 ho2 hb2 hg2 _
               have HO2 := Aside0.mk ho2
               have HB2 := Aside0.mk hb2
               have HS2 := Aside0.mk (Nat.le_trans HBr.out.size hg2.size)
               clear ho2 hb2 hg2)
            | (at_builtin; (refine print_append_str (w0 := w) w.heap.size rfl (.tmp 64) (.tmp 65) 26 9 5 rfl Tryz.underlying26 Tryz.underlying9 (by kernel_rfl) v2 (ys ++ hs) dn rfl rfl HO2.out HB2.out HS2.out (by rw [List.length_append]; omega) ?_)
               intro v3 w3 ho3 hb3 hg3
               generalize hzs : ys ++ hs ++ bytesOf dn = zs at ho3
               have HZS := Aside0.mk hzs
               have hzl : zs.length ≤ 16000 * i + 8000 + 512 + 100000 + 512 + 300000 := by
                 rw [← hzs]
                 simp only [List.length_append, bytesOf_length]
                 omega
               clear hzs
               have HO3 := Aside0.mk ho3
               have HB3 := Aside0.mk hb3
               have HS3 := Aside0.mk (Nat.le_trans HS2.out hg3.size)
               clear ho3 hb3 hg3))
          refine (refPad_calls w w.heap.size v3 zs w3 HO3.out HB3.out HS3.out (by omega)).mono ?_
          rintro e w4 ⟨v4, rfl, ho4, hb4⟩
          have HE4 := Aside0.mk (show padL zs = (entsT (t.take (i + 1))).flatMap entryB from by
            rw [← HZS.out, pad_entry _ _ _ HYE.out.1 HM5.out, ← HEn.out, HYE.out.2, List.append_assoc, HNode.out, ← HStep.out])
          rw [HE4.out] at ho4
          have HO4 := Aside0.mk ho4
          have HB4 := Aside0.mk hb4
          clear ho4 hb4
          have hle := HLe.out
          go_wp2_with fail
          exact ⟨⟨i + 1, _, by simp, by omega, hle, ⟨rfl⟩, HO4, HB4⟩, by simp only [intOf]; omega⟩
      · have hic : decide ((i : Int) < (t.length : Int)) = false := decide_eq_false (by omega)
        have hi2 : i = t.length := by omega
        subst hi2
        have HTB := Aside0.mk (show tarB t = xs ++ List.replicate 1024 0 from by
          rw [HXS.out, List.take_length]
          rfl)
        clear HXS hil hi
        go_wp2_with (at_builtin; refine append_zerosG (w0 := w) w.heap.size rfl (.tmp 68) (.const (.int .i64 1024)) 26 3 5 rfl Tryz.underlying26 Tryz.underlying3 (by kernel_rfl) (.slice A3 xs.length c3) 0 xs .i64 1024 rfl rfl HO.out HB.out HB.out.size (by omega) ?_; intro v5 w5 ho5 hb5 _; rw [← HTB.out] at ho5; have HO5 := Aside0.mk ho5; have HB5 := Aside0.mk hb5; clear ho5 hb5)
        go_ret2
        rw [HR.out]
        exact ⟨v5, rfl, HO5.out, HB5.out⟩
end Go.Proofs.YtdijnmcfpbceaaaGreatDoor.X

namespace Go.Proofs.YtdijnmcfpbceaaaGreatDoor.X
open Go.RowKit Go.Proofs.YtdijnmcfpbceaaaGreatDoorW.PrintWords Go.Proofs.YtdijnmcfpbceaaaGreatDoorW.PrintLast Go.Proofs.YtdijnmcfpbceaaaGreatDoorW.PrintMore Go.Proofs.YtdijnmcfpbceaaaGreatDoor.P
set_option linter.unusedVariables false
set_option linter.unusedSimpArgs false
def LentN (W : World) (g cap : Nat) (xs : List S47) (m : Nat) : Prop :=
  ∃ cells : Array Value, W.heap[g]? = some (.cells cells 47 (0, 0)) ∧ cells.size = cap * 3 ∧ cap = xs.length + 3 ∧ (∀ (j : Nat) u, (rowCs xs)[j]? = some u → cells[j]? = some u) ∧ (∀ j, j < m → cells[(xs.length + j) * 3]? = some (.string ⟨#[108, 101, 110, 116]⟩) ∧ cells[(xs.length + j) * 3 + 1]? = some (.int .i64 0) ∧ cells[(xs.length + j) * 3 + 2]? = some (.string ⟨#[]⟩))
theorem rowCs_length (t : List S47) : (rowCs t).length = t.length * 3 := by
  induction t with
  | nil => rfl
  | cons n t ih =>
    unfold rowCs at ih ⊢
    rw [List.flatMap_cons, List.length_append, ih, List.length_cons]
    show 3 + t.length * 3 = _
    omega
theorem rowCs_one (t : List S47) : ∀ u ∈ rowCs t, u.oneCell' = true := by
  intro u hu
  unfold rowCs at hu
  obtain ⟨n, _, hn⟩ := List.mem_flatMap.1 hu
  simp [nodeCs] at hn
  rcases hn with rfl | rfl | rfl <;> rfl
theorem rowCs_get : ∀ (t : List S47) (j : Nat) (n : S47), t[j]? = some n → (rowCs t)[j * 3]? = some (.string n.f0) ∧ (rowCs t)[j * 3 + 1]? = some (.int .i64 n.f1) ∧ (rowCs t)[j * 3 + 2]? = some (.string n.f2)
  | [], j, n, h => by simp at h
  | m :: t, 0, n, h => by
    simp at h
    subst h
    exact ⟨rfl, rfl, rfl⟩
  | m :: t, j + 1, n, h => by
    obtain ⟨a, b, c⟩ := rowCs_get t j n (by simpa using h)
    have e : rowCs (m :: t) = nodeCs m ++ rowCs t := rfl
    have e3 : (nodeCs m).length = 3 := rfl
    rw [e, List.getElem?_append_right (by omega), List.getElem?_append_right (by omega), List.getElem?_append_right (by omega), e3]
    rw [show (j + 1) * 3 - 3 = j * 3 from by omega, show (j + 1) * 3 + 1 - 3 = j * 3 + 1 from by omega, show (j + 1) * 3 + 2 - 3 = j * 3 + 2 from by omega]
    exact ⟨a, b, c⟩
theorem LentN.below {W W1 : World} {g cap m : Nat} {xs : List S47} (h : LentN W g cap xs m) (hb : Below W.heap.size W W1) : LentN W1 g cap xs m := by
  obtain ⟨cells, hg, h1⟩ := h
  have hlt : g < W.heap.size := (Array.getElem?_eq_some_iff.1 hg).1
  exact ⟨cells, (hb.block g hlt).trans hg, h1⟩
theorem LentN.reads {W : World} {g cap m : Nat} {xs : List S47} (h : LentN W g cap xs m) (hm : xs.length ≤ 9223372036854775807) : Kd.C k47 W (some ⟨g, 0, none⟩) xs.length xs := by
  obtain ⟨cells, hg, h1, h2, h3, h4⟩ := h
  refine ⟨rfl, hm, fun _ => ⟨_, rfl, fun j p hj => ?_⟩⟩
  obtain ⟨a, b, c⟩ := rowCs_get xs j p hj
  refine ⟨nodeCs p, rfl, k47_mk W p, fun i u hu => ?_⟩
  rw [add_plain]
  have hi : i = 0 ∨ i = 1 ∨ i = 2 := by
    have := (List.getElem?_eq_some_iff.1 hu).1
    have e3 : (nodeCs p).length = 3 := rfl
    omega
  rcases hi with rfl | rfl | rfl
  · have h5 := h3 _ _ a
    cases hu
    simp only [World.cell?, hg]
    exact h5
  · have h5 := h3 _ _ b
    cases hu
    simp only [World.cell?, hg]
    exact h5
  · have h5 := h3 _ _ c
    cases hu
    simp only [World.cell?, hg]
    exact h5
theorem LentN.room {W : World} {g cap m : Nat} {xs : List S47} (h : LentN W g cap xs m) : xs.length ≤ cap := by
  obtain ⟨cells, hg, h1, h2, h3⟩ := h
  omega
theorem LentN.mark {W : World} {g cap m : Nat} {xs : List S47} (h : LentN W g cap xs m) {j : Nat} (hj : j < m) : W.cell? ⟨g, (xs.length + j) * 3, none⟩ = some (.string ⟨#[108, 101, 110, 116]⟩) ∧ W.cell? ⟨g, (xs.length + j) * 3 + 1, none⟩ = some (.int .i64 0) ∧ W.cell? ⟨g, (xs.length + j) * 3 + 2, none⟩ = some (.string ⟨#[]⟩) := by
  obtain ⟨cells, hg, h1, h2, h3, h4⟩ := h
  obtain ⟨a, b, c⟩ := h4 j hj
  simp [World.cell?, hg, a, b, c]
theorem LentN.put {W : World} {g cap m : Nat} {xs : List S47} (h : LentN W g cap xs m) (hm : m < 3) : LentN (((W.setCell ⟨g, (xs.length + m) * 3, none⟩ (.string ⟨#[108, 101, 110, 116]⟩)).setCell ⟨g, (xs.length + m) * 3 + 1, none⟩ (.int .i64 0)).setCell ⟨g, (xs.length + m) * 3 + 2, none⟩ (.string ⟨#[]⟩)) g cap xs (m + 1) := by
  obtain ⟨cells, hg, h1, h2, h3, h4⟩ := h
  have g1 := blk_set hg ((xs.length + m) * 3) (.string ⟨#[108, 101, 110, 116]⟩)
  have g2 := blk_set g1 ((xs.length + m) * 3 + 1) (.int .i64 0)
  have g3 := blk_set g2 ((xs.length + m) * 3 + 2) (.string ⟨#[]⟩)
  refine ⟨_, g3, by simp [h1], h2, fun j u hj => ?_, fun j hj => ?_⟩
  · have hl : j < xs.length * 3 := by
      rw [← rowCs_length]
      exact (List.getElem?_eq_some_iff.1 hj).1
    rw [Array.getElem?_setIfInBounds_ne (by omega), Array.getElem?_setIfInBounds_ne (by omega), Array.getElem?_setIfInBounds_ne (by omega)]
    exact h3 j u hj
  · by_cases hjm : j = m
    · subst hjm
      have hs : cells.size = cap * 3 := h1
      refine ⟨?_, ?_, ?_⟩
      · rw [Array.getElem?_setIfInBounds_ne (by omega), Array.getElem?_setIfInBounds_ne (by omega), Array.getElem?_setIfInBounds, if_pos rfl, if_pos (by omega)]
      · rw [Array.getElem?_setIfInBounds_ne (by omega), Array.getElem?_setIfInBounds, if_pos rfl, if_pos (by simp; omega)]
      · rw [Array.getElem?_setIfInBounds, if_pos rfl, if_pos (by simp; omega)]
    · obtain ⟨a, b, c⟩ := h4 j (by omega)
      refine ⟨?_, ?_, ?_⟩
      all_goals rw [Array.getElem?_setIfInBounds_ne (by omega), Array.getElem?_setIfInBounds_ne (by omega), Array.getElem?_setIfInBounds_ne (by omega)]
      · exact a
      · exact b
      · exact c
theorem LentN.cell_any {W : World} {g cap m : Nat} {xs : List S47} (h : LentN W g cap xs m) {j : Nat} (hj : j < cap * 3) : ∃ v, W.cell? ⟨g, j, none⟩ = some v := by
  obtain ⟨cells, hg, h1, h2, h3, h4⟩ := h
  exact ⟨cells[j]'(by omega), by simp [World.cell?, hg]⟩
theorem LentN.unfrozen {W : World} {g cap m : Nat} {xs : List S47} (h : LentN W g cap xs m) (j : Nat) : W.frozen? ⟨g, j, none⟩ = false := by
  obtain ⟨cells, hg, _⟩ := h
  simp [World.frozen?, hg]
theorem cells_of_C {w : World} {ad : Addr} {xs : List S47} (h : Kd.C k47 w (some ad) xs.length xs) : ∀ j u, (rowCs xs)[j]? = some u → w.cell? (ad.add j) = some u := by
  intro j u hu
  have hj : j < xs.length * 3 := by
    rw [← rowCs_length]
    exact (List.getElem?_eq_some_iff.1 hu).1
  obtain ⟨q, r, rfl, hr⟩ : ∃ q r, j = q * 3 + r ∧ r < 3 := ⟨j / 3, j % 3, by omega, by omega⟩
  have hq : q < xs.length := by omega
  obtain ⟨ad', e, z0, z1, z2⟩ := at_T47 h (q : Int) (by omega) (by omega)
  cases e
  simp only [Int.toNat_natCast] at z0 z1 z2
  rw [rdN_get xs q hq] at z0 z1 z2
  obtain ⟨a, b, c⟩ := rowCs_get xs q _ (List.getElem?_eq_getElem hq)
  have hr3 : r = 0 ∨ r = 1 ∨ r = 2 := by omega
  rcases hr3 with rfl | rfl | rfl
  · rw [Nat.add_zero] at hu ⊢
    rw [a] at hu
    cases hu
    exact z0
  · rw [b] at hu
    cases hu
    rw [add_field _ _ _ (by omega)]
    exact z1
  · rw [c] at hu
    cases hu
    rw [add_field _ _ _ (by omega)]
    exact z2
theorem lentN_append (w : World) (A0 : Option Addr) (c0 : Nat) (l0 : List S47) (hr0 : Kd.C k47 w A0 l0.length l0) (hl : l0.length ≤ 1000000) :
    ∃ W2, (Builtin.append_ #[22, 22] 22 #[.slice (some ⟨w.heap.size, 0, none⟩) 0 (l0.length + 3), .slice A0 l0.length c0]).run Tryz.prog (w.alloc (.cells (madeCells #[.string ⟨#[]⟩, .int .i64 0, .string ⟨#[]⟩] ((l0.length + 3) * 3)) 47)) = .ok (.slice (some ⟨w.heap.size, 0, none⟩) l0.length (l0.length + 3)) W2 ∧
      LentN W2 w.heap.size (l0.length + 3) l0 0 ∧ Below w.heap.size w W2 := by
  have hsz : ∀ n, (madeCells #[Value.string ⟨#[]⟩, .int .i64 0, .string ⟨#[]⟩] n).size = n := fun n => by simp [madeCells]
  have hnew : (w.alloc (.cells (madeCells #[.string ⟨#[]⟩, .int .i64 0, .string ⟨#[]⟩] ((l0.length + 3) * 3)) 47)).heap[w.heap.size]? = some (.cells (madeCells #[.string ⟨#[]⟩, .int .i64 0, .string ⟨#[]⟩] ((l0.length + 3) * 3)) 47 (0, 0)) := by simp [World.alloc, -World.alloc_eq]
  have hB := (Below.refl w.heap.size w).alloc (Nat.le_refl _) (.cells (madeCells #[.string ⟨#[]⟩, .int .i64 0, .string ⟨#[]⟩] ((l0.length + 3) * 3)) 47)
  obtain ⟨i0, hi, hz0, hz1, hz2⟩ := info_parts (show (Tryz.prog.info? 47).map (fun i => (i.zero, i.size, i.bytes)) = some (some (.agg #[.string ⟨#[]⟩, .int .i64 0, .string ⟨#[]⟩]), 3, 40) by kernel_rfl)
  cases A0 with
  | none =>
    have h0 : l0 = [] := by
      rcases l0 with _ | ⟨x, l⟩
      · rfl
      · obtain ⟨ad, e, _⟩ := hr0.2.2 (by simp)
        cases e
    subst h0
    refine ⟨_, ?_, ⟨_, hnew, by rw [hsz], rfl, by simp [rowCs], fun j hj => by omega⟩, hB⟩
    simp [Builtin.append_, run_underlying Tryz.underlying22, sizeOf, typeInfo, hi, Builtin.lenOf, run_firstCells_none, storeCells]
  | some ad =>
    have hnc := cells_of_C hr0
    have hnl := rowCs_length l0
    have hone := rowCs_one l0
    have hat : ∀ (j : Nat) u, (rowCs l0)[j]? = some u → (rowCs l0)[j]? = some u := fun j u h => h
    have hrun := run_append_room (P := Tryz.prog) (w.alloc (.cells (madeCells #[.string ⟨#[]⟩, .int .i64 0, .string ⟨#[]⟩] ((l0.length + 3) * 3)) 47)) 22 22 47 i0 Tryz.underlying22 hi w.heap.size 0 (l0.length + 3) _ hnew ad l0.length c0 (rowCs l0) (by rw [hz1, hnl]) (fun j u hu => pw_cell_below hB (hnc j u hu)) hone (by omega) (by rw [hnl, hsz]; omega)
    simp only [Nat.zero_mul, Nat.zero_add, List.take_zero, List.nil_append] at hrun
    refine ⟨_, hrun, ?_, ?_⟩
    · refine ⟨((rowCs l0) ++ (madeCells #[Value.string ⟨#[]⟩, .int .i64 0, .string ⟨#[]⟩] ((l0.length + 3) * 3)).toList.drop (rowCs l0).length).toArray, ?_, ?_, rfl, ?_, fun j hj => by omega⟩
      · simp only [World.setRow, Array.getElem?_modify, hnew]; simp
      · simp [hsz, hnl]
        omega
      · intro j x hx
        have h1 := hat j x hx
        have hj : j < (rowCs l0).length := (List.getElem?_eq_some_iff.1 h1).1
        simp only [List.getElem?_toArray]
        rw [List.getElem?_append_left hj]
        exact h1
    · refine ⟨rfl, rfl, rfl, by simp [World.setRow, World.alloc, -World.alloc_eq], fun i hi2 => ?_⟩
      have hne : ¬ w.heap.size = i := by omega
      simp [World.setRow, Array.getElem?_modify, World.alloc, -World.alloc_eq, hne, Array.getElem?_push, Ne.symm hne]
set_option maxHeartbeats 1600000 in
set_option maxRecDepth 100000 in
theorem lendNodes_calls (A0 : Option Addr) (c0 : Nat) (l0 : List S47) (w : World) (hr0 : Kd.C k47 w A0 l0.length l0) (hl : l0.length ≤ 1000000) :
    Calls Tryz.prog 9 #[.slice A0 l0.length c0] w fun e w' => ∃ g cap : Nat, e = .returned (.slice (some ⟨g, 0, none⟩) l0.length cap) ∧ LentN w' g cap l0 3 ∧ w.heap.size ≤ g ∧ Below w.heap.size w w' := by
  obtain ⟨W2, hap, hL, hB⟩ := lentN_append w A0 c0 l0 hr0 hl
  obtain ⟨n, hn⟩ : ∃ n, l0.length = n := ⟨_, rfl⟩
  have HN := Aside0.mk hn
  rw [hn] at hl hr0 hap hL ⊢
  clear hr0
  have HL := Aside0.mk hL
  have HB := Aside0.mk hB
  have HP := Aside0.mk hap
  clear hn hL hB hap
  have hmk : ∀ W : World, (Instr.makeSlice 22 (.int .i64 0) (.int .i64 ((n : Int) + 3))).run Tryz.prog W = .ok (.slice (some ⟨W.heap.size, 0, none⟩) 0 (n + 3)) (W.alloc (.cells (madeCells #[.string ⟨#[]⟩, .int .i64 0, .string ⟨#[]⟩] ((n + 3) * 3)) 47)) := by
    intro W
    obtain ⟨i0, hi, hz0, hz1, hz2⟩ := info_parts (show (Tryz.prog.info? 47).map (fun i => (i.zero, i.size, i.bytes)) = some (some (.agg #[.string ⟨#[]⟩, .int .i64 0, .string ⟨#[]⟩]), 3, 40) by kernel_rfl)
    have h := run_make (P := Tryz.prog) W 22 47 i0 (.agg #[.string ⟨#[]⟩, .int .i64 0, .string ⟨#[]⟩]) Tryz.underlying22 hi hz0 .i64 .i64 0 ((n : Int) + 3) (by omega) (by omega) (by rw [hz2]; omega) (by omega)
    have e1 : ((n : Int) + 3).toNat = n + 3 := by omega
    simp only [e1, hz1] at h
    exact h
  go_enter Tryz.func9, Tryz.ntmps9
  go_wp2_with (at_builtin; refine wpList_append_run rfl _ _ 22 22 rfl _ _ _ W2 rfl rfl HP.out ?_)
  have e3 : n + 3 - n = 3 := by omega
  simp only [e3]
  clear e3 hmk HP
  go_loopw [5] (fun vi wr => ∃ k : Nat, k ≤ 3 ∧ vi = .int .i64 k ∧ Aside0 (LentN wr w.heap.size (n + 3) l0 k) ∧ Aside0 (Below w.heap.size w wr)) (fun vi _ => 3 - (intOf vi).toNat)
  case atStart => exact ⟨0, by omega, rfl, HL, HB⟩
  case round =>
    clear HL HB
    obtain ⟨k, hk, rfl, HL, HB⟩ := hrel
    by_cases hlt : k < 3
    · obtain ⟨v0, hv0⟩ := HL.out.cell_any (j := n * 3 + k * 3) (by omega)
      obtain ⟨v1, hv1⟩ := HL.out.cell_any (j := n * 3 + k * 3 + 1) (by omega)
      obtain ⟨v2, hv2⟩ := HL.out.cell_any (j := n * 3 + k * 3 + 2) (by omega)
      have hfz := HL.out.unfrozen
      go_wp2_with fail
      have HP := HL.out.put hlt
      rw [HN.out, show (n + k) * 3 = n * 3 + k * 3 from by omega] at HP
      exact ⟨⟨k + 1, by omega, by go_num, ⟨HP⟩, ⟨below_set (below_set (below_set HB.out (Nat.le_refl _)) (Nat.le_refl _)) (Nat.le_refl _)⟩⟩, by simp only [intOf]; omega⟩
    · have hk3 : k = 3 := by omega
      subst hk3
      go_wp2
      go_ret
      exact ⟨_, _, rfl, HL.out, Nat.le_refl _, HB.out⟩
set_option maxHeartbeats 1600000 in
set_option maxRecDepth 100000 in
theorem keptNodes_calls (g cap : Nat) (l0 : List S47) (A1 : Option Addr) (c1 : Nat) (w : World) (hL : LentN w g cap l0 3) (hl : l0.length ≤ 1000000) (hr1 : Kd.C k47 w A1 l0.length l0) (hc1 : l0.length ≤ c1) :
    Calls Tryz.prog 16 #[.slice (some ⟨g, 0, none⟩) l0.length cap, .slice A1 l0.length c1] w fun e w' => e = .returned (.bool true) ∧ Below w.heap.size w w' := by
  obtain ⟨n, hn⟩ : ∃ n, l0.length = n := ⟨_, rfl⟩
  have hcap : cap = n + 3 := by obtain ⟨_, _, _, h1, _⟩ := hL; omega
  subst hcap
  have HN := Aside0.mk hn
  have HL := Aside0.mk hL
  have HR := Aside0.mk hr1
  have HC := Aside0.mk hc1
  rw [hn] at hl ⊢
  clear hn hL hr1 hc1
  go_enter Tryz.func16, Tryz.ntmps16
  go_wp2_with fail
  have e3 : n + 3 - n = 3 := by omega
  simp only [e3]
  clear e3
  go_loopw [6] (fun vi wr => ∃ k : Nat, k ≤ 3 ∧ vi = .int .i64 k ∧ Aside0 (Below w.heap.size w wr)) (fun vi _ => 3 - (intOf vi).toNat)
  case atStart => exact ⟨0, by omega, rfl, ⟨Below.refl _ _⟩⟩
  case round =>
    obtain ⟨k, hk, rfl, HB⟩ := hrel
    by_cases hlt : k < 3
    · obtain ⟨hv0, hv1, hv2⟩ := (HL.out.below HB.out).mark hlt
      rw [HN.out, show (n + k) * 3 = n * 3 + k * 3 from by omega] at hv0 hv1 hv2
      go_wp2_with fail
      exact ⟨⟨k + 1, by omega, by go_num, HB⟩, by simp only [intOf]; omega⟩
    · have hk3 : k = 3 := by omega
      subst hk3
      go_wp2_with fail
      have hlen := HN.out
      rw [← hlen]
      refine (sameNodes_calls _ _ l0 _ _ l0 _ (Kd.C_below (HL.out.reads (by omega)) HB.out) (by omega) (Kd.C_below HR.out HB.out) HC.out).mono ?_
      rintro e w2 ⟨r, rfl, hr, hd⟩
      have HD := Aside0.mk (below_step HB.out hd)
      have hrt : r = true := hr.2 rfl
      subst hrt
      clear hd hlen hr
      go_wp2_with fail
      go_ret
      exact ⟨rfl, HD.out⟩
end Go.Proofs.YtdijnmcfpbceaaaGreatDoor.X

namespace Go.Proofs.YtdijnmcfpbceaaaGreatDoor.P
open Go.Proofs.YtdijnmcfpbceaaaGreatDoor.X
open Go.RowKit Go.Proofs.YtdijnmcfpbceaaaGreatDoorW.PrintWords Go.Proofs.YtdijnmcfpbceaaaGreatDoorW.PrintLast Go.Proofs.YtdijnmcfpbceaaaGreatDoorW.PrintMore
attribute [local go_sem] min2_int min_two
set_option linter.unusedVariables false
set_option linter.unusedSimpArgs false
def hogsheadlaw0_Num.f (a0 : Int) : Option (Int) := some a0
set_option maxHeartbeats 8000000 in
set_option maxRecDepth 100000 in
theorem hogsheadlaw0_Num.calls (a0 : Int) (r : Int) (w : World) (h : hogsheadlaw0_Num.f a0 = some r) :
  Calls Tryz.prog 13 #[.int .i64 a0] w fun e w' => e = .returned (.int .i64 r) ∧ Drawn0 w w' := by
 have H : (some a0) = some r := h
 clear h
 obtain rfl := Option.some.inj H
 go_enter Tryz.func13, Tryz.ntmps13
 go_wp2
 go_ret
 exact ⟨by first | rfl | (simp; done) | (simp [*]; done), by repeat (first | exact Drawn0.refl _ | apply Drawn0.step)⟩
end Go.Proofs.YtdijnmcfpbceaaaGreatDoor.P

namespace Go.Proofs.YtdijnmcfpbceaaaGreatDoor.X
open Go.RowKit Go.Proofs.YtdijnmcfpbceaaaGreatDoorW.PrintWords Go.Proofs.YtdijnmcfpbceaaaGreatDoorW.PrintLast Go.Proofs.YtdijnmcfpbceaaaGreatDoorW.PrintMore Go.Proofs.YtdijnmcfpbceaaaGreatDoor.P
set_option linter.unusedVariables false
set_option linter.unusedSimpArgs false
theorem tarR_len (t : List S47) : (tarR t).1.length ≤ 7000000 := by
  unfold tarR
  split
  · rename_i h
    have h1 := flat_bound t (treeB_good h).1
    have h2 := (treeB_good h).2
    show (tarB t).length ≤ _
    rw [tarB_at, List.length_append, List.length_replicate]
    omega
  · exact Nat.zero_le _
theorem overBytes_calls (w0 : World) (A : Option Addr) (c : Nat) (xs : List Int) (w : World) (hB : Below w0.heap.size w0 w) (ho : w.ownsRow w0.heap.size 5 1 (.slice A xs.length c) xs.length (nums .u8 xs)) (hl : xs.length ≤ 7000000) :
    Calls Tryz.prog 17 #[.slice A xs.length c] w fun e w' => e = .returned (.tuple #[]) ∧ Below w0.heap.size w0 w' ∧ Kept w w' (fun k => (Value.slice A xs.length c).ownBlock = some k) := by
  obtain ⟨K, hK⟩ := overBytes_eq xs (by omega)
  exact hogsheadlaw0_OverBytes.calls K (fun k => (Value.slice A xs.length c).ownBlock = some k) (.slice A xs.length c) xs w0 w hB (Kd.R_of_own ho (fun k hk => hk)) (hK K (Nat.le_refl _))
set_option maxHeartbeats 8000000 in
set_option maxRecDepth 100000 in
theorem tarLays_calls (A0 : Option Addr) (c0 : Nat) (t : List S47) (key value : ByteArray) (w : World) (hT : Aside0 (Tabs w)) (hC : Kd.C k47 w A0 t.length t) (hc : t.length ≤ c0) :
    Calls Tryz.prog 3 #[.slice A0 t.length c0, .string key, .string value] w fun e w' => e = .returned (.bool true) ∧ Below w.heap.size w w' := by
  have X := Aside0.mk hC
  clear hC
  obtain ⟨b1, hb1⟩ : ∃ b, decide ((200 : Int) < (key.size : Int)) = b := ⟨_, rfl⟩
  obtain ⟨b2, hb2⟩ : ∃ b, decide ((200 : Int) < (value.size : Int)) = b := ⟨_, rfl⟩
  go_enter Tryz.func3, Tryz.ntmps3
  go_wp2_with fail
  refine (greatNodes_calls A0 c0 t 30 w X.out hc (by omega)).mono ?_
  rintro e w1 ⟨rfl, hw1⟩
  have HB1 := Aside0.mk hw1
  clear hw1
  obtain ⟨bg, hbg⟩ : ∃ b, greatN t 30 = b := ⟨_, rfl⟩
  have HBG := Aside0.mk hbg
  rw [hbg]
  clear hbg
  cases hbb : (bg || (b1 || b2)) with
  | true =>
    cases bg <;> cases b1 <;> cases b2 <;> first
    | (cases hbb; done)
    | (clear hbb
       go_wp2_with fail
       refine (awake13_calls w1 ⟨Tabs.below hT.out HB1.out⟩).mono ?_
       rintro e w2 ⟨rfl, hb⟩
       have HB := Aside0.mk (below_step HB1.out hb)
       clear hb
       go_wp2_with fail
       go_ret
       exact ⟨rfl, HB.out⟩)
  | false =>
    obtain rfl : bg = false := by cases bg <;> first | rfl | cases hbb
    obtain rfl : b1 = false := by cases b1 <;> first | rfl | cases hbb
    obtain rfl : b2 = false := by cases b2 <;> first | rfl | cases hbb
    clear hbb
    have h30 : t.length ≤ 30 := (greatN_false HBG.out).1
    have HGr := Aside0.mk (greatN_false HBG.out).2
    have hk2 : key.size ≤ 200 := by have := of_decide_eq_false hb1; omega
    have hv2 : value.size ≤ 200 := by have := of_decide_eq_false hb2; omega
    go_wp2_with fail
    refine (lendNodes_calls A0 c0 t w1 (Kd.C_below X.out HB1.out) (by omega)).mono ?_
    rintro e w2 ⟨g, cap, rfl, hL, hg, hw2⟩
    have HB2 := Aside0.mk (below_step HB1.out hw2)
    have HL := Aside0.mk hL
    have hcap := hL.room
    clear hw2 hL HB1 hg
    go_wp2_with fail
    refine (tarLay_calls (some ⟨g, 0, none⟩) cap t w2 ⟨Tabs.below hT.out HB2.out⟩ (HL.out.reads (by omega)) hcap (by omega)).mono ?_
    rintro e w3 ⟨v, rfl, ho, hw3⟩
    obtain ⟨A5, c5, rfl, _⟩ := own_reads ho
    have HO := Aside0.mk ho
    have HB3 := Aside0.mk (below_step HB2.out hw3)
    have HL3 := Aside0.mk (HL.out.below hw3)
    have hs23 := HB2.out.size
    clear ho hw3 HL
    have HX3 := Aside0.mk (Kd.C_below X.out HB3.out)
    go_wp2_with fail
    refine (refLay_calls A0 c0 t w3 HX3.out hc (by omega) (fun n hn => by have := HGr.out n hn; omega)).mono ?_
    rintro e w4 ⟨v4, rfl, ho4, hw4⟩
    obtain ⟨A6, c6, rfl, _⟩ := own_reads ho4
    have HO4 := Aside0.mk ho4
    have HOa := Aside0.mk (ownG HO.out hw4)
    have HB4 := Aside0.mk (below_step HB3.out hw4)
    have HL4 := Aside0.mk (HL3.out.below hw4)
    have HNe := Aside0.mk (show ∀ k, (Value.slice A5 (tarR t).1.length c5).ownBlock = some k → (Value.slice A6 (tarR t).1.length c6).ownBlock ≠ some k from fun k h1 h2 => by
      have h3 := own_lt HO.out k h1
      have h4 := own_base HO4.out k h2
      omega)
    clear ho4 hw4 HL3 HO HB3 HX3 HB2
    have HTL := Aside0.mk (fun W (h1 : Tabs W) (h2 : Kd.C k47 W A0 t.length t) => tarLay_calls A0 c0 t W ⟨h1⟩ h2 hc (by omega))
    have hlx := tarR_len t
    generalize (tarR t).1 = xs at *
    generalize (tarR t).2 = code at *
    have hcc : (code == code) = true := beq_self_eq_true code
    have hcapa := own_cap HOa.out
    have hcapb := own_cap HO4.out
    have HCa := Aside0.mk (show (Kd.int .u8).C w4 A5 xs.length xs from by
      obtain ⟨A', c', e, hR⟩ := own_reads HOa.out
      cases e
      exact Kd.C_of_reads (d := (0 : Int)) (h1 := fun _ => rfl) hR)
    have HCb := Aside0.mk (show (Kd.int .u8).C w4 A6 xs.length xs from by
      obtain ⟨A', c', e, hR⟩ := own_reads HO4.out
      cases e
      exact Kd.C_of_reads (d := (0 : Int)) (h1 := fun _ => rfl) hR)
    go_wp2_with fail
    refine (sameBytes_calls A5 c5 xs A6 c6 w4 HCa.out hcapa HCb.out hcapb).mono ?_
    rintro e w5 ⟨rfl, hw5⟩
    have HB5 := Aside0.mk (below_step HB4.out hw5)
    have HOa5 := Aside0.mk (ownG HOa.out hw5)
    have HOb5 := Aside0.mk (ownG HO4.out hw5)
    have HL5 := Aside0.mk (HL4.out.below hw5)
    clear hw5 HCa HCb HOa HO4 HL4 HB4
    go_wp2_with fail
    refine (hogsheadlaw0_Num.calls code code w5 rfl).mono ?_
    rintro e w6 ⟨rfl, hw6⟩
    have HB6 := Aside0.mk (below_step HB5.out hw6.below)
    have HOa6 := Aside0.mk (ownG HOa5.out hw6.below)
    have HOb6 := Aside0.mk (ownG HOb5.out hw6.below)
    have HL6 := Aside0.mk (HL5.out.below hw6.below)
    clear hw6 HOa5 HOb5 HL5 HB5
    go_wp2_with fail
    refine (record_calls key value w6 ⟨Tabs.below hT.out HB6.out⟩ (by omega)).mono ?_
    rintro e w7 ⟨rfl, hw7⟩
    have HB7 := Aside0.mk (below_step HB6.out hw7)
    have HOa7 := Aside0.mk (ownG HOa6.out hw7)
    have HOb7 := Aside0.mk (ownG HOb6.out hw7)
    have HL7 := Aside0.mk (HL6.out.below hw7)
    clear hw7 HOa6 HOb6 HL6 HB6
    go_wp2_with fail
    refine (refRecord_calls key value w7 (by omega)).mono ?_
    rintro e w8 ⟨rfl, hw8⟩
    have HB8 := Aside0.mk (below_step HB7.out hw8)
    have HOa8 := Aside0.mk (ownG HOa7.out hw8)
    have HOb8 := Aside0.mk (ownG HOb7.out hw8)
    have HL8 := Aside0.mk (HL7.out.below hw8)
    clear hw8 HOa7 HOb7 HL7 HB7
    generalize recT key value = rec at *
    have hrr : (rec.toList == rec.toList) = true := beq_self_eq_true _
    go_wp2_with fail
    refine (keptNodes_calls g cap t A0 c0 w8 HL8.out (by omega) (Kd.C_below X.out HB8.out) hc).mono ?_
    rintro e w9 ⟨rfl, hw9⟩
    have HB9 := Aside0.mk (below_step HB8.out hw9)
    have HOa9 := Aside0.mk (own_weaken (ownG HOa8.out hw9) hs23)
    have HOb9 := Aside0.mk (ownG HOb8.out hw9)
    clear hw9 HOa8 HOb8 HL8 HB8
    go_wp2_with fail
    refine (overBytes_calls w A5 c5 xs w9 HB9.out HOa9.out hlx).mono ?_
    rintro e w10 ⟨rfl, hw10, hkp⟩
    have HB10 := Aside0.mk hw10
    have HOb10 := Aside0.mk (own_move HOb9.out (fun k hk => hkp.2 k (own_lt HOb9.out k hk) (fun h => HNe.out k h hk)))
    clear hw10 hkp HOa9 HOb9 HB9
    go_wp2_with fail
    refine (HTL.out w10 (Tabs.below hT.out HB10.out) (Kd.C_below X.out HB10.out)).mono ?_
    rintro e w11 ⟨v11, rfl, ho11, hw11⟩
    obtain ⟨A7, c7, rfl, hR7⟩ := own_reads ho11
    have hcap7 := own_cap ho11
    have HC7 := Aside0.mk (show (Kd.int .u8).C w11 A7 xs.length xs from Kd.C_of_reads (d := (0 : Int)) (h1 := fun _ => rfl) hR7)
    have HB11 := Aside0.mk (below_step HB10.out hw11)
    have HOb11 := Aside0.mk (ownG HOb10.out hw11)
    clear ho11 hR7 hw11 HOb10 HB10
    have HCb := Aside0.mk (show (Kd.int .u8).C w11 A6 xs.length xs from by
      obtain ⟨A', c', e, hR⟩ := own_reads HOb11.out
      cases e
      exact Kd.C_of_reads (d := (0 : Int)) (h1 := fun _ => rfl) hR)
    go_wp2_with fail
    refine (sameBytes_calls A7 c7 xs A6 c6 w11 HC7.out hcap7 HCb.out hcapb).mono ?_
    rintro e w12 ⟨rfl, hw12⟩
    have HB12 := Aside0.mk (below_step HB11.out hw12)
    clear hw12 HC7 HCb HOb11 HB11
    go_wp2_with fail
    refine (awake13_calls w12 ⟨Tabs.below hT.out HB12.out⟩).mono ?_
    rintro e w13 ⟨rfl, hw13⟩
    have HB13 := Aside0.mk (below_step HB12.out hw13)
    clear hw13
    go_wp2_with fail
    go_ret
    exact ⟨rfl, HB13.out⟩
end Go.Proofs.YtdijnmcfpbceaaaGreatDoor.X
