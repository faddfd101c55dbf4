/- Part 2 of what is behind the row RowUntarReads: Pf48, Pf49, X6, XPL, XPM, Pf12, Pf17, Pf27, XPW, XPN, XAA, XAB, XGA, XVK, XCA, XCR, XCB, Pf150, Pf135, Pf119, XAP, Pf121, Pf99, XAQ, Pf56, XAT, XAU, Pf61, Pf58, Pf60, XCD. -/
import Derived.Test.YtdijnmcfpbceaaaGreatDoorMUR1
import Derived.Test.YtdijnmcfpbceaaaGreatDoorProg
import Derived.Below
import Derived.Deep.Draws
import Derived.Deep.AppendLies
import Derived.Maps.AppendAt
import Derived.OwnWalk
import Derived.Laws.BytesArg
import Derived.Laws.MakeOwn
import Derived.Laws.OwnMore
import Derived.Deep.OwnRows
import Derived.Tactics
import Derived.Lib.ConvBytes
import Derived.Laws.Slices
import Derived.WalkKit
import Derived.KernelRfl
import Derived.RowKit3
import Derived.Deep.LoopGhost
import Derived.Deep.QuietTactic
import Derived.BigQuiet
import Derived.WideLaws
import Derived.Deep.DeepCutAuto
import Derived.Deep.CutBlock
import Derived.Deep.RegionHeld3
import Derived.Laws.Rows
import Derived.Lib.AppendStr
import Derived.ArgAppend
import Derived.Laws.IdiomCopy
import Derived.OrdersHeld
import Derived.Laws.BitsLemmas
import Derived.RowKit
import Derived.Laws.Cover1
import Derived.Laws.StructEq
import Derived.Lib.ItoaNum
import Derived.Lib.ItoaMem
import Derived.Lib.BufferWrite
import Derived.Laws.CopyOwn
import Derived.Outline
import Derived.WalkLawsBesides
import Derived.WalkSpells
import Derived.LoopTactic
import Derived.Lib.Hide
import Derived.Laws.Bits64b
import Derived.Laws.NewBlocks
import Derived.Lib.AppendIntMem
import Derived.Shelf.Strings.Builder1
import Derived.Shelf.Strings.Builder2
import Derived.Shelf.Small.Utf8
import Derived.Shelf.Small.Strs
import Derived.Shelf.Strings.BuilderF
import Derived.Shelf.Strings.BuilderK
import Derived.Shelf.Strconv.Atoi
import Derived.Shelf.Strconv.Itoa0
import Derived.Shelf.Strconv.Itoa1
import Derived.Shelf.LaysM
import Derived.Shelf.Strconv.Itoa2
import Derived.Shelf.Strconv.Itoa3
import Derived.Shelf.Strconv.Itoa4
import Derived.Shelf.Strconv.AtoiErrFast
import Derived.Shelf.Strconv.ParseIntEmpty
import Derived.Shelf.Strconv.AtoiFail
import Derived.Shelf.Strconv.Clone
import Derived.Shelf.Strconv.SyntaxError
import Derived.Shelf.LaysC
import Derived.Shelf.Strconv.ToError
import Derived.Shelf.Strconv.Lower
import Derived.Shelf.Strconv.ParseUint10
import Derived.Shelf.Strconv.ParseUint10Empty
import Derived.Shelf.Strconv.ParseUint10Any
import Derived.Shelf.Strconv.ParseInt10
import Derived.Shelf.Strconv.AtoiLong
import Derived.Shelf.Strconv.AtoiInnerAll
import Derived.Shelf.Strconv.RangeError
import Derived.Shelf.Strconv.ToErrorRange
import Derived.Shelf.Strconv.AtoiAll
import Derived.Shelf.Strings.Search1
import Derived.Shelf.Strings.Search2
import Derived.Shelf.Strings.Search3
import Derived.Shelf.Strings.Cut
import Derived.Shelf.Strings.Count
import Derived.Shelf.Strings.Shaped
import Derived.Shelf.Strings.Prefix
import Derived.Shelf.Strings.Split
import Derived.Shelf.Bits.Mul64
import Derived.Shelf.Strings.Repeat
import Derived.Shelf.Unicode.DecodeSlow
import Derived.Shelf.Bytes.Small
import Derived.Lib.IndexMore
import Derived.Lib.Bytealg
import Derived.Laws.BitsAllLaws
import Derived.Lib.Repeat
import Derived.Lib.SplitLaws
import Derived.Lib.IndexBytes
import Derived.Lib.IndexLaws
import Derived.Lib.LastIndexByte
import Derived.Maps.OwnOps
import Derived.Maps.Views
import Derived.StringKeys
import Derived.Lib.AppendZerosOnto
namespace Go.Proofs.YtdijnmcfpbceaaaGreatDoor.P
open Go.Proofs.YtdijnmcfpbceaaaGreatDoor.X
open Go.RowKit Go.Proofs.YtdijnmcfpbceaaaGreatDoorW.PrintWords Go.Proofs.YtdijnmcfpbceaaaGreatDoorW.PrintLast Go.Proofs.YtdijnmcfpbceaaaGreatDoorW.PrintMore
attribute [local go_sem] min2_int min_two
set_option linter.unusedVariables false
set_option linter.unusedSimpArgs false
def hogsheadref12_mode.f (a0 : Int) : Option (ByteArray) := (some (([(⟨#[]⟩ : ByteArray), (⟨#[48, 48, 48, 48, 55, 53, 53]⟩ : ByteArray), (⟨#[48, 48, 48, 48, 54, 52, 52]⟩ : ByteArray), (⟨#[48, 48, 48, 48, 55, 53, 53]⟩ : ByteArray), (⟨#[48, 48, 48, 48, 55, 55, 55]⟩ : ByteArray), (⟨#[48, 48, 48, 48, 54, 52, 52]⟩ : ByteArray)] : List ByteArray) : List ByteArray)).bind fun y223 => (if 0 ≤ a0 then (if a0 < (y223.length : Int) then (some (rdOf ByteArray.empty y223 a0)) else (none)) else (none))
set_option maxHeartbeats 8000000 in
set_option maxRecDepth 100000 in
theorem hogsheadref12_mode.calls (a0 : Int) (r : ByteArray) (w : World) (h : hogsheadref12_mode.f a0 = some r) :
  Calls Tryz.prog 48 #[.int .i64 a0] w fun e w' => e = .returned (.string r) ∧ Below w.heap.size w w' := by
 have HB := Aside0.mk (Below.refl w.heap.size w)
 have H : ((some (([(⟨#[]⟩ : ByteArray), (⟨#[48, 48, 48, 48, 55, 53, 53]⟩ : ByteArray), (⟨#[48, 48, 48, 48, 54, 52, 52]⟩ : ByteArray), (⟨#[48, 48, 48, 48, 55, 53, 53]⟩ : ByteArray), (⟨#[48, 48, 48, 48, 55, 55, 55]⟩ : ByteArray), (⟨#[48, 48, 48, 48, 54, 52, 52]⟩ : ByteArray)] : List ByteArray) : List ByteArray)).bind fun y223 => (if 0 ≤ a0 then (if a0 < (y223.length : Int) then (some (rdOf ByteArray.empty y223 a0)) else (none)) else (none))) = some r := h
 clear h
 obtain ⟨y223, hy223⟩ : ∃ y_ : List ByteArray, y_ = (([(⟨#[]⟩ : ByteArray), (⟨#[48, 48, 48, 48, 55, 53, 53]⟩ : ByteArray), (⟨#[48, 48, 48, 48, 54, 52, 52]⟩ : ByteArray), (⟨#[48, 48, 48, 48, 55, 53, 53]⟩ : ByteArray), (⟨#[48, 48, 48, 48, 55, 55, 55]⟩ : ByteArray), (⟨#[48, 48, 48, 48, 54, 52, 52]⟩ : ByteArray)] : List ByteArray)) := ⟨_, rfl⟩
 replace H : (if 0 ≤ a0 then (if a0 < (y223.length : Int) then (some (rdOf ByteArray.empty y223 a0)) else (none)) else (none)) = some r := by first | (rw [hy223]; with_reducible exact H) | (have H2_ := (Option.bind_some _ _).symm.trans H; rw [hy223]; with_reducible exact H2_) | (have H2_ := (Option.bind_some _ _).symm.trans H; with_reducible exact H2_) | with_reducible exact H | (rw [hy223]; exact H) | exact H
 have Ny223 := Aside0.mk hy223
 clear hy223
 by_cases c2 : 0 ≤ a0
 ·rw [if_pos c2] at H
  have c2b0 : decide (0 ≤ a0) = true := decide_eq_true c2
  clear c2
  by_cases c3 : a0 < (y223.length : Int)
  ·rw [if_pos c3] at H
   have c3b0 : decide (a0 < (y223.length : Int)) = true := decide_eq_true c3
   clear c3
   obtain rfl := Option.some.inj H
   go_enter Tryz.func48, Tryz.ntmps48
   go_wp2_with (first | ((with_reducible refine gate_dst (N := 3) rfl ?_); refine Kd.R_lit Kd.string _ 9 ?hg (N := 3) ?hd (xs := ([(⟨#[]⟩ : ByteArray), (⟨#[48, 48, 48, 48, 55, 53, 53]⟩ : ByteArray), (⟨#[48, 48, 48, 48, 54, 52, 52]⟩ : ByteArray), (⟨#[48, 48, 48, 48, 55, 53, 53]⟩ : ByteArray), (⟨#[48, 48, 48, 48, 55, 55, 55]⟩ : ByteArray), (⟨#[48, 48, 48, 48, 54, 52, 52]⟩ : ByteArray)] : List ByteArray)) (inner := [.string (⟨#[]⟩ : ByteArray), .string (⟨#[48, 48, 48, 48, 55, 53, 53]⟩ : ByteArray), .string (⟨#[48, 48, 48, 48, 54, 52, 52]⟩ : ByteArray), .string (⟨#[48, 48, 48, 48, 55, 53, 53]⟩ : ByteArray), .string (⟨#[48, 48, 48, 48, 55, 55, 55]⟩ : ByteArray), .string (⟨#[48, 48, 48, 48, 54, 52, 52]⟩ : ByteArray)]) (ok := fun _ => True) (okp := fun _ => True) ?hr ?hp (fun _ hk => hk) trivial (Below.refl _ _) (Nat.le_refl _) (by simp) ?_; (case hd => rfl); (case hg => rfl); (case hr => first | (go_simp; done) | (go_simp; rfl)); (case hp => exact (Reps.one (show Kd.M Kd.string _ _ _ (⟨#[]⟩ : ByteArray) [.string (⟨#[]⟩ : ByteArray)] from rfl) (Reps.one (show Kd.M Kd.string _ _ _ (⟨#[48, 48, 48, 48, 55, 53, 53]⟩ : ByteArray) [.string (⟨#[48, 48, 48, 48, 55, 53, 53]⟩ : ByteArray)] from rfl) (Reps.one (show Kd.M Kd.string _ _ _ (⟨#[48, 48, 48, 48, 54, 52, 52]⟩ : ByteArray) [.string (⟨#[48, 48, 48, 48, 54, 52, 52]⟩ : ByteArray)] from rfl) (Reps.one (show Kd.M Kd.string _ _ _ (⟨#[48, 48, 48, 48, 55, 53, 53]⟩ : ByteArray) [.string (⟨#[48, 48, 48, 48, 55, 53, 53]⟩ : ByteArray)] from rfl) (Reps.one (show Kd.M Kd.string _ _ _ (⟨#[48, 48, 48, 48, 55, 55, 55]⟩ : ByteArray) [.string (⟨#[48, 48, 48, 48, 55, 55, 55]⟩ : ByteArray)] from rfl) (Reps.one (show Kd.M Kd.string _ _ _ (⟨#[48, 48, 48, 48, 54, 52, 52]⟩ : ByteArray) [.string (⟨#[48, 48, 48, 48, 54, 52, 52]⟩ : ByteArray)] from rfl) (Reps.none _ _)))))))); intro v224 w4 ho5 hb hg_ hnew_; clear hg_ hnew_; (first | rw [← Ny223.out] at ho5 | (simp only [Int.reduceToNat] at ho5; rw [← Ny223.out] at ho5)); have n0_ := Aside0.mk (Kd.R_lower ho5 (below_size (by repeat (first | (with_reducible first | exact HB.out | apply below_alloc | apply pw_below_drewN | apply below_drew1) | exact HB.out)))); have n1_ := Aside0.mk (below_step (by repeat (first | (with_reducible first | exact HB.out | apply below_alloc | apply pw_below_drewN | apply below_drew1) | exact HB.out)) hb); clear HB; have HO225 := n0_; have HB := n1_; clear n0_ n1_; clear hb ho5; obtain ⟨Ao6, co6, eo6⟩ := Kd.R_slice HO225.out; subst eo6; have p226 : 0 ≤ (a0 : Int) := of_decide_eq_true (by first | (with_reducible assumption) | assumption); have q226 : a0 < (y223.length : Int) := of_decide_eq_true (by first | (with_reducible assumption) | assumption); obtain ⟨ad226, e226, hx226_0⟩ := Kd.at_string (Kd.R_reads' HO225.out).2.2 a0 p226 q226; cases e226; replace p226 := eq_true p226; replace q226 := eq_true q226))
   go_ret
   exact ⟨by first | rfl | (simp [errW_none, errW_some] <;> rfl) | (simp [*, errW_none, errW_some] <;> rfl), by repeat (first | (with_reducible first | exact HB.out | apply below_alloc | apply pw_below_drewN | apply below_drew1) | exact HB.out)⟩
  ·rw [if_neg c3] at H
   exact absurd H (by simp)
 ·rw [if_neg c2] at H
  exact absurd H (by simp)
end Go.Proofs.YtdijnmcfpbceaaaGreatDoor.P

namespace Go.Proofs.YtdijnmcfpbceaaaGreatDoor.P
open Go.Proofs.YtdijnmcfpbceaaaGreatDoor.X
open Go.RowKit Go.Proofs.YtdijnmcfpbceaaaGreatDoorW.PrintWords Go.Proofs.YtdijnmcfpbceaaaGreatDoorW.PrintLast Go.Proofs.YtdijnmcfpbceaaaGreatDoorW.PrintMore
attribute [local go_sem] min2_int min_two
set_option linter.unusedVariables false
set_option linter.unusedSimpArgs false
def hogsheadref12_letter.f (a0 : Int) : Option (Int) := if 0 ≤ a0 then (if a0 < 6 then (some (bt (⟨#[32, 53, 48, 48, 50, 120]⟩ : ByteArray) a0)) else (none)) else (none)
set_option maxHeartbeats 8000000 in
set_option maxRecDepth 100000 in
theorem hogsheadref12_letter.calls (a0 : Int) (r : Int) (w : World) (h : hogsheadref12_letter.f a0 = some r) :
  Calls Tryz.prog 49 #[.int .i64 a0] w fun e w' => e = .returned (.int .u8 r) ∧ Drawn0 w w' := by
 have H : (if 0 ≤ a0 then (if a0 < 6 then (some (bt (⟨#[32, 53, 48, 48, 50, 120]⟩ : ByteArray) a0)) else (none)) else (none)) = some r := h
 clear h
 by_cases c2 : 0 ≤ a0
 ·rw [if_pos c2] at H
  have c2b0 : decide (0 ≤ a0) = true := decide_eq_true c2
  clear c2
  by_cases c3 : a0 < 6
  ·rw [if_pos c3] at H
   have c3b0 : decide (a0 < 6) = true := decide_eq_true c3
   clear c3
   obtain rfl := Option.some.inj H
   have p4 : 0 ≤ (a0 : Int) := of_decide_eq_true (by first | (with_reducible assumption) | assumption)
   have q4 : a0 < (6 : Int) := of_decide_eq_true (by first | (with_reducible assumption) | assumption)
   have hx4 := bt_at (⟨#[32, 53, 48, 48, 50, 120]⟩ : ByteArray) a0
   replace p4 := eq_true p4
   replace q4 := eq_true q4
   go_enter Tryz.func49, Tryz.ntmps49
   go_wp2
   go_ret
   exact ⟨by first | rfl | (simp; done) | (simp [*]; done), by repeat (first | exact Drawn0.refl _ | apply Drawn0.step)⟩
  ·rw [if_neg c3] at H
   exact absurd H (by simp)
 ·rw [if_neg c2] at H
  exact absurd H (by simp)
end Go.Proofs.YtdijnmcfpbceaaaGreatDoor.P

namespace Go.Proofs.YtdijnmcfpbceaaaGreatDoor.X
open Go.RowKit Go.Proofs.YtdijnmcfpbceaaaGreatDoorW.PrintWords Go.Proofs.YtdijnmcfpbceaaaGreatDoor.P
set_option linter.unusedVariables false
set_option linter.unusedSimpArgs false
def rlaid0 (name md dg : ByteArray) (lt : Int) (link : ByteArray) : List Int :=
  putB (putB ((putB (putB (putB (putB (putB (putB (putB zeros512 0 name) 100 md) 108 ⟨#[48, 48, 48, 48, 48, 48, 48]⟩) 116 ⟨#[48, 48, 48, 48, 48, 48, 48]⟩) 124 dg) 136 ⟨#[48, 48, 48, 48, 48, 48, 48, 48, 48, 48, 48]⟩) 148 ⟨#[32, 32, 32, 32, 32, 32, 32, 32]⟩).set 156 lt) 157 link) 257 ⟨#[117, 115, 116, 97, 114, 0, 48, 48]⟩
def hogsheadref12_Lay.g (k : Nat) (a0 : ByteArray) (a1 a2 : Int) (a3 : ByteArray) : Option (List Int × Bool) :=
  (hogsheadref12_Octal.f k a2 11).bind fun o => if o.2 = true then
    (hogsheadref12_mode.f a1).bind fun md => (hogsheadref12_letter.f a1).bind fun lt =>
      if md.size ≤ 412 ∧ o.1.size ≤ 388 then
        (hogsheadref12_Octal.f k (sumB (rlaid0 a0 md o.1 lt a3)) 6).bind fun q => if q.1.size + 2 ≤ 364 then some (putB (rlaid0 a0 md o.1 lt a3) 148 (q.1 ++ (⟨#[0, 32]⟩ : ByteArray)), true) else none
      else none
  else some ([], false)
def hogsheadref12_Lay.f (k : Nat) (a0 : ByteArray) (a1 a2 : Int) (a3 : ByteArray) : Option (List Int × Bool) :=
  if a0.toList = [] then some ([], false) else
  if (100 : Int) < a0.size then some ([], false) else
  (hogsheadref12_zero.f k a0).bind fun z => if z = true then some ([], false) else
  if (100 : Int) < a3.size then some ([], false) else
  (hogsheadref12_zero.f k a3).bind fun y => if y = true then some ([], false) else
  if a1 < 1 then some ([], false) else
  if 5 < a1 then some ([], false) else
  if ((a1 == 4) == (a3.toList == [])) = true then some ([], false) else
  if (a1 = 1 ∨ a1 = 4) ∧ a2 ≠ 0 then some ([], false) else
  hogsheadref12_Lay.g k a0 a1 a2 a3
set_option maxHeartbeats 12800000 in
set_option maxRecDepth 100000 in
theorem hogsheadref12_Lay.calls (k : Nat) (a0 : ByteArray) (a1 a2 : Int) (a3 : ByteArray) (r1 : List Int) (r2 : Bool) (w : World) (h : hogsheadref12_Lay.f k a0 a1 a2 a3 = some (r1, r2)) :
    Calls Tryz.prog 32 #[.string a0, .int .i64 a1, .int .i64 a2, .string a3] w fun e w' => ∃ v0_, e = .returned (.tuple #[v0_, .bool r2]) ∧ (Kd.int .u8).R 5 w' w.heap.size (fun _ => True) v0_ r1 ∧ Below w.heap.size w w' := by
  unfold hogsheadref12_Lay.f at h
  by_cases c1 : a0.toList = []
  · rw [if_pos c1] at h
    have c1a : (a0.toList == []) = true := beq_iff_eq.mpr c1
    obtain ⟨rfl, rfl⟩ := Prod.mk.inj (Option.some.inj h)
    go_enter Tryz.func32, Tryz.ntmps32
    go_wp2
    go_ret2
    exact ⟨_, rfl, Kd.R_nil _ _ _ _ _, by repeat (first | exact Below.refl _ _ | apply below_drew1 | apply pw_below_drewN)⟩
  rw [if_neg c1] at h
  have c1a : (a0.toList == []) = false := beq_eq_false_iff_ne.mpr c1
  by_cases c2 : (100 : Int) < a0.size
  · rw [if_pos c2] at h
    have c2a : decide ((100 : Int) < a0.size) = true := decide_eq_true c2
    obtain ⟨rfl, rfl⟩ := Prod.mk.inj (Option.some.inj h)
    go_enter Tryz.func32, Tryz.ntmps32
    go_wp2
    go_ret2
    exact ⟨_, rfl, Kd.R_nil _ _ _ _ _, by repeat (first | exact Below.refl _ _ | apply below_drew1 | apply pw_below_drewN)⟩
  rw [if_neg c2] at h
  have c2a : decide ((100 : Int) < a0.size) = false := decide_eq_false c2
  replace h := Option.bind_eq_some_iff.mp h
  obtain ⟨z, hz, h⟩ := h
  have Hz := Aside0.mk hz
  clear hz
  by_cases c3 : z = true
  · rw [if_pos c3] at h
    subst c3
    obtain ⟨rfl, rfl⟩ := Prod.mk.inj (Option.some.inj h)
    go_enter Tryz.func32, Tryz.ntmps32
    go_wp2_with (first | (go_at_call 46; refine (hogsheadref12_zero.calls k a0 true _ Hz.out).mono ?_; rintro e wn ⟨rfl, ⟨nz, rfl⟩⟩; (try clear Hz)))
    go_ret2
    exact ⟨_, rfl, Kd.R_nil _ _ _ _ _, by repeat (first | exact Below.refl _ _ | apply below_drew1 | apply pw_below_drewN)⟩
  rw [if_neg c3] at h
  obtain rfl : z = false := by simpa using c3
  clear c3
  by_cases c4 : (100 : Int) < a3.size
  · rw [if_pos c4] at h
    have c4a : decide ((100 : Int) < a3.size) = true := decide_eq_true c4
    obtain ⟨rfl, rfl⟩ := Prod.mk.inj (Option.some.inj h)
    go_enter Tryz.func32, Tryz.ntmps32
    go_wp2_with (first | (go_at_call 46; refine (hogsheadref12_zero.calls k a0 false _ Hz.out).mono ?_; rintro e wn ⟨rfl, ⟨nz, rfl⟩⟩; (try clear Hz)))
    go_ret2
    exact ⟨_, rfl, Kd.R_nil _ _ _ _ _, by repeat (first | exact Below.refl _ _ | apply below_drew1 | apply pw_below_drewN)⟩
  rw [if_neg c4] at h
  have c4a : decide ((100 : Int) < a3.size) = false := decide_eq_false c4
  replace h := Option.bind_eq_some_iff.mp h
  obtain ⟨y, hy, h⟩ := h
  have Hy := Aside0.mk hy
  clear hy
  by_cases c5 : y = true
  · rw [if_pos c5] at h
    subst c5
    obtain ⟨rfl, rfl⟩ := Prod.mk.inj (Option.some.inj h)
    go_enter Tryz.func32, Tryz.ntmps32
    go_wp2_with (first | (go_at_call 46; refine (hogsheadref12_zero.calls k a0 false _ Hz.out).mono ?_; rintro e wn ⟨rfl, ⟨nz, rfl⟩⟩; (try clear Hz)) | (go_at_call 46; refine (hogsheadref12_zero.calls k a3 true _ Hy.out).mono ?_; rintro e wn ⟨rfl, ⟨ny, rfl⟩⟩; (try clear Hy)))
    go_ret2
    exact ⟨_, rfl, Kd.R_nil _ _ _ _ _, by repeat (first | exact Below.refl _ _ | apply below_drew1 | apply pw_below_drewN)⟩
  rw [if_neg c5] at h
  obtain rfl : y = false := by simpa using c5
  clear c5
  by_cases c6 : a1 < 1
  · rw [if_pos c6] at h
    have c6a : decide (a1 < 1) = true := decide_eq_true c6
    obtain ⟨rfl, rfl⟩ := Prod.mk.inj (Option.some.inj h)
    go_enter Tryz.func32, Tryz.ntmps32
    go_wp2_with (first | (go_at_call 46; refine (hogsheadref12_zero.calls k a0 false _ Hz.out).mono ?_; rintro e wn ⟨rfl, ⟨nz, rfl⟩⟩; (try clear Hz)) | (go_at_call 46; refine (hogsheadref12_zero.calls k a3 false _ Hy.out).mono ?_; rintro e wn ⟨rfl, ⟨ny, rfl⟩⟩; (try clear Hy)))
    go_ret2
    exact ⟨_, rfl, Kd.R_nil _ _ _ _ _, by repeat (first | exact Below.refl _ _ | apply below_drew1 | apply pw_below_drewN)⟩
  rw [if_neg c6] at h
  have c6a : decide (a1 < 1) = false := decide_eq_false c6
  by_cases c7 : 5 < a1
  · rw [if_pos c7] at h
    have c7a : decide (5 < a1) = true := decide_eq_true c7
    obtain ⟨rfl, rfl⟩ := Prod.mk.inj (Option.some.inj h)
    go_enter Tryz.func32, Tryz.ntmps32
    go_wp2_with (first | (go_at_call 46; refine (hogsheadref12_zero.calls k a0 false _ Hz.out).mono ?_; rintro e wn ⟨rfl, ⟨nz, rfl⟩⟩; (try clear Hz)) | (go_at_call 46; refine (hogsheadref12_zero.calls k a3 false _ Hy.out).mono ?_; rintro e wn ⟨rfl, ⟨ny, rfl⟩⟩; (try clear Hy)))
    go_ret2
    exact ⟨_, rfl, Kd.R_nil _ _ _ _ _, by repeat (first | exact Below.refl _ _ | apply below_drew1 | apply pw_below_drewN)⟩
  rw [if_neg c7] at h
  have c7a : decide (5 < a1) = false := decide_eq_false c7
  by_cases e4 : a1 = 4
  · have e4a : (a1 == 4) = true := beq_iff_eq.mpr e4
    have e1a : (a1 == 1) = false := beq_eq_false_iff_ne.mpr (by omega)
    by_cases e0 : a3.toList = []
    · have e0a : (a3.toList == []) = true := beq_iff_eq.mpr e0
      have e0b : a3.toList.isEmpty = true := by rw [e0]; rfl
      rw [e4a, e0a, if_pos (by decide)] at h
      clear e4
      obtain ⟨rfl, rfl⟩ := Prod.mk.inj (Option.some.inj h)
      go_enter Tryz.func32, Tryz.ntmps32
      go_wp2_with (first | (go_at_call 46; refine (hogsheadref12_zero.calls k a0 false _ Hz.out).mono ?_; rintro e wn ⟨rfl, ⟨nz, rfl⟩⟩; (try clear Hz)) | (go_at_call 46; refine (hogsheadref12_zero.calls k a3 false _ Hy.out).mono ?_; rintro e wn ⟨rfl, ⟨ny, rfl⟩⟩; (try clear Hy)))
      go_ret2
      exact ⟨_, rfl, Kd.R_nil _ _ _ _ _, by repeat (first | exact Below.refl _ _ | apply below_drew1 | apply pw_below_drewN)⟩
    have e0a : (a3.toList == []) = false := beq_eq_false_iff_ne.mpr e0
    have e0b : a3.toList.isEmpty = false := by cases hl : a3.toList <;> simp_all
    rw [e4a, e0a, if_neg (by decide)] at h
    by_cases e2 : a2 = 0
    · have e2a : (a2 == 0) = true := beq_iff_eq.mpr e2
      have e2b : (a2 != 0) = false := bne_eq_false_iff_eq.mpr e2
      rw [if_neg (fun hc => hc.2 e2)] at h
      clear e2 e4
      unfold hogsheadref12_Lay.g at h
      replace h := Option.bind_eq_some_iff.mp h
      obtain ⟨⟨o1, o2⟩, h1, h⟩ := h
      have H1 := Aside0.mk h1
      clear h1
      cases o2 with
      | false =>
        rw [if_neg (by simp)] at h
        obtain ⟨rfl, rfl⟩ := Prod.mk.inj (Option.some.inj h)
        go_enter Tryz.func32, Tryz.ntmps32
        go_wp2_with (first | (go_at_call 46; refine (hogsheadref12_zero.calls k a0 false _ Hz.out).mono ?_; rintro e wn ⟨rfl, ⟨nz, rfl⟩⟩; (try clear Hz)) | (go_at_call 46; refine (hogsheadref12_zero.calls k a3 false _ Hy.out).mono ?_; rintro e wn ⟨rfl, ⟨ny, rfl⟩⟩; (try clear Hy)) | (go_at_call 47; refine (hogsheadref12_Octal.calls k a2 11 o1 false _ H1.out).mono ?_; rintro e wn ⟨rfl, ⟨no, rfl⟩⟩; (try clear H1)))
        go_ret2
        exact ⟨_, rfl, Kd.R_nil _ _ _ _ _, by repeat (first | exact Below.refl _ _ | apply below_drew1 | apply pw_below_drewN)⟩
      | true =>
        rw [if_pos rfl] at h
        replace h := Option.bind_eq_some_iff.mp h
        obtain ⟨md, h3, h⟩ := h
        have H3 := Aside0.mk h3
        replace h := Option.bind_eq_some_iff.mp h
        obtain ⟨lt, h4, h⟩ := h
        have H4 := Aside0.mk h4
        clear h3 h4
        split at h
        case isFalse => cases h
        rename_i hfit
        obtain ⟨f1, f2⟩ := hfit
        replace h := Option.bind_eq_some_iff.mp h
        obtain ⟨⟨q1, q2⟩, h5, h⟩ := h
        have H5 := Aside0.mk h5
        clear h5
        split at h
        case isFalse => cases h
        rename_i f5
        obtain ⟨e1_, rfl⟩ := Prod.mk.inj (Option.some.inj h)
        have E1 := Aside0.mk (show putB (rlaid0 a0 md o1 lt a3) 148 (q1 ++ (⟨#[0, 32]⟩ : ByteArray)) = r1 from e1_)
        clear h e1_
        have F := Aside0.mk (show a0.size ≤ 512 ∧ md.size ≤ 412 ∧ o1.size ≤ 388 ∧ a3.size ≤ 355 ∧ q1.size + 2 ≤ 364 from And.intro (show a0.size ≤ 512 by omega) (And.intro f1 (And.intro f2 (And.intro (show a3.size ≤ 355 by omega) f5))))
        clear f1 f2 f5
        have hmk := make512
        go_enter Tryz.func32, Tryz.ntmps32
        go_wp2_with (first | (go_at_call 46; refine (hogsheadref12_zero.calls k a0 false _ Hz.out).mono ?_; rintro e wn ⟨rfl, ⟨nz, rfl⟩⟩; (try clear Hz)) | (go_at_call 46; refine (hogsheadref12_zero.calls k a3 false _ Hy.out).mono ?_; rintro e wn ⟨rfl, ⟨ny, rfl⟩⟩; (try clear Hy)) | (go_at_call 47; refine (hogsheadref12_Octal.calls k a2 11 o1 true _ H1.out).mono ?_; rintro e wn ⟨rfl, ⟨no, rfl⟩⟩; (try clear H1)))
        refine upon_put (Buf.made1 (w0 := w) (w := w.drewN (nz + ny + no)) (pw_below_drewN (Below.refl _ _) _)) 0 a0 (by have := F.out.1; omega) (by have := F.out.1; omega) ?_
        intro W0 hb _
        have HF := Aside0.mk (show Buf w W0 w.heap.size _ from hb)
        clear hb
        go_wp2_with fail
        go_region_with (first | (go_at_call 48; refine (hogsheadref12_mode.calls a1 md _ H3.out).mono ?_; rintro e wn ⟨rfl, hb⟩; have n0_ := Aside0.mk ((HF.out.step (by repeat (first | exact Below.refl _ _ | apply below_drew | apply pw_below_drewN))).step hb); clear HF hb; have HF := n0_; clear n0_) | (refine upon_put HF.out 100 md (by have := F.out.2.1; omega) (by have := F.out.2.1; omega) ?_; intro W1 hb _; clear HF; have HF := Aside0.mk hb; clear hb))
        go_wp2_with fail
        refine upon_put HF.out 108 (⟨#[48, 48, 48, 48, 48, 48, 48]⟩ : ByteArray) (by show _ + _ ≤ 512; decide) (by show _ ≤ _; decide) ?_
        intro W2 hb _
        clear HF
        have HF := Aside0.mk hb
        clear hb
        go_wp2_with fail
        refine upon_put HF.out 116 (⟨#[48, 48, 48, 48, 48, 48, 48]⟩ : ByteArray) (by show _ + _ ≤ 512; decide) (by show _ ≤ _; decide) ?_
        intro W3 hb _
        clear HF
        have HF := Aside0.mk hb
        clear hb
        go_wp2_with fail
        refine upon_put HF.out 124 o1 (by have := F.out.2.2.1; omega) (by have := F.out.2.2.1; omega) ?_
        intro W4 hb _
        clear HF
        have HF := Aside0.mk hb
        clear hb
        go_wp2_with fail
        refine upon_put HF.out 136 (⟨#[48, 48, 48, 48, 48, 48, 48, 48, 48, 48, 48]⟩ : ByteArray) (by show _ + _ ≤ 512; decide) (by show _ ≤ _; decide) ?_
        intro W5 hb _
        clear HF
        have HF := Aside0.mk hb
        clear hb
        go_wp2_with fail
        refine upon_put HF.out 148 (⟨#[32, 32, 32, 32, 32, 32, 32, 32]⟩ : ByteArray) (by show _ + _ ≤ 512; decide) (by show _ ≤ _; decide) ?_
        intro W6 hb _
        clear HF
        have HF := Aside0.mk hb
        clear hb
        go_wp2_with (go_at_call 49; refine (hogsheadref12_letter.calls a1 lt _ H4.out).mono ?_; rintro e wn ⟨rfl, ⟨nl, rfl⟩⟩; have n0_ := Aside0.mk (HF.out.step (pw_below_drewN (Below.refl _ _) nl)); clear HF; have HF := n0_; clear n0_; have hst := HF.out.cell 156 (by decide); have hfr := HF.out.free 156)
        clear hst hfr
        replace HF := Aside0.mk (HF.out.set 156 lt)
        refine upon_put HF.out 157 a3 (by have := F.out.2.2.2.1; omega) (by have := F.out.2.2.2.1; omega) ?_
        intro W7 hb _
        clear HF
        have HF := Aside0.mk hb
        clear hb
        go_wp2_with fail
        refine upon_put HF.out 257 (⟨#[117, 115, 116, 97, 114, 0, 48, 48]⟩ : ByteArray) (by show _ + _ ≤ 512; decide) (by show _ ≤ _; decide) ?_
        intro W8 hb _
        clear HF
        have HF := Aside0.mk hb
        clear hb
        generalize hxs : putB (putB ((putB (putB (putB (putB (putB (putB (putB zeros512 0 a0) 100 md) 108 ⟨#[48, 48, 48, 48, 48, 48, 48]⟩) 116 ⟨#[48, 48, 48, 48, 48, 48, 48]⟩) 124 o1) 136 ⟨#[48, 48, 48, 48, 48, 48, 48, 48, 48, 48, 48]⟩) 148 ⟨#[32, 32, 32, 32, 32, 32, 32, 32]⟩).set 156 lt) 157 a3) 257 ⟨#[117, 115, 116, 97, 114, 0, 48, 48]⟩ = xs at HF
        have HXs := Aside0.mk (show rlaid0 a0 md o1 lt a3 = xs from hxs)
        replace H5 := Aside0.mk (HXs.out ▸ H5.out : hogsheadref12_Octal.f k (sumB xs) 6 = some (q1, q2))
        clear hxs
        go_wp2_with fail
        go_loopw [13, 14] (fun vs vi wr => ∃ (i : Nat), vi = .int .i64 i ∧ i ≤ 512 ∧ vs = .int .i64 (sumB (xs.take i)) ∧ Hid (Buf w wr w.heap.size xs)) (fun _ vi _ => 512 - (intOf vi).toNat)
        case atStart => exact ⟨0, rfl, by omega, rfl, HF.out⟩
        case round =>
          obtain ⟨i, rfl, hi, rfl, hB⟩ := hrel
          by_cases hlt : i < 512
          · have hcell := hB.out.cell i hlt
            go_wp2
            have hl : i < xs.length := by rw [hB.out.len]; exact hlt
            exact ⟨⟨i + 1, rfl, by omega, by rw [sumB_take xs i hl], hB⟩, by simp only [intOf]; omega⟩
          · obtain rfl : i = 512 := by omega
            have ht : xs.take 512 = xs := List.take_of_length_le (by rw [hB.out.len]; exact Nat.le_refl _)
            rw [ht]
            clear ht
            have HB2 := Aside0.mk hB.out
            have hcat : ¬ (9223372036854775807 < q1.size + 2) := by have := F.out.2.2.2.2; omega
            go_wp2_with (go_at_call 47; refine (hogsheadref12_Octal.calls k (sumB xs) 6 q1 q2 _ H5.out).mono ?_; rintro e wq ⟨rfl, ⟨nq, rfl⟩⟩)
            have HBF := Aside0.mk (HB2.out.step (pw_below_drewN (Below.refl _ _) nq))
            clear HB2 hB hcat
            refine upon_put HBF.out 148 (q1 ++ (⟨#[0, 32]⟩ : ByteArray)) (tail_fits q1 F.out.2.2.2.2) (tail_fits2 q1 F.out.2.2.2.2) ?_
            intro WZ hb _
            have HZ := Aside0.mk hb
            clear hb
            go_wp2_with fail
            go_ret2
            refine ⟨_, rfl, ?_, HZ.out.below⟩
            rw [← E1.out, HXs.out]
            exact HZ.out.R
    have e2a : (a2 == 0) = false := beq_eq_false_iff_ne.mpr e2
    have e2b : (a2 != 0) = true := bne_iff_ne.mpr e2
    rw [if_pos ⟨Or.inr e4, e2⟩] at h
    clear e4
    obtain ⟨rfl, rfl⟩ := Prod.mk.inj (Option.some.inj h)
    go_enter Tryz.func32, Tryz.ntmps32
    go_wp2_with (first | (go_at_call 46; refine (hogsheadref12_zero.calls k a0 false _ Hz.out).mono ?_; rintro e wn ⟨rfl, ⟨nz, rfl⟩⟩; (try clear Hz)) | (go_at_call 46; refine (hogsheadref12_zero.calls k a3 false _ Hy.out).mono ?_; rintro e wn ⟨rfl, ⟨ny, rfl⟩⟩; (try clear Hy)))
    go_ret2
    exact ⟨_, rfl, Kd.R_nil _ _ _ _ _, by repeat (first | exact Below.refl _ _ | apply below_drew1 | apply pw_below_drewN)⟩
  have e4a : (a1 == 4) = false := beq_eq_false_iff_ne.mpr e4
  by_cases e0 : a3.toList = []
  · have e0a : (a3.toList == []) = true := beq_iff_eq.mpr e0
    have e0b : a3.toList.isEmpty = true := by rw [e0]; rfl
    rw [e4a, e0a, if_neg (by decide)] at h
    by_cases e1 : a1 = 1
    · have e1a : (a1 == 1) = true := beq_iff_eq.mpr e1
      by_cases e2 : a2 = 0
      · have e2a : (a2 == 0) = true := beq_iff_eq.mpr e2
        have e2b : (a2 != 0) = false := bne_eq_false_iff_eq.mpr e2
        rw [if_neg (fun hc => hc.2 e2)] at h
        clear e2 e1 e4
        unfold hogsheadref12_Lay.g at h
        replace h := Option.bind_eq_some_iff.mp h
        obtain ⟨⟨o1, o2⟩, h1, h⟩ := h
        have H1 := Aside0.mk h1
        clear h1
        cases o2 with
        | false =>
          rw [if_neg (by simp)] at h
          obtain ⟨rfl, rfl⟩ := Prod.mk.inj (Option.some.inj h)
          go_enter Tryz.func32, Tryz.ntmps32
          go_wp2_with (first | (go_at_call 46; refine (hogsheadref12_zero.calls k a0 false _ Hz.out).mono ?_; rintro e wn ⟨rfl, ⟨nz, rfl⟩⟩; (try clear Hz)) | (go_at_call 46; refine (hogsheadref12_zero.calls k a3 false _ Hy.out).mono ?_; rintro e wn ⟨rfl, ⟨ny, rfl⟩⟩; (try clear Hy)) | (go_at_call 47; refine (hogsheadref12_Octal.calls k a2 11 o1 false _ H1.out).mono ?_; rintro e wn ⟨rfl, ⟨no, rfl⟩⟩; (try clear H1)))
          go_ret2
          exact ⟨_, rfl, Kd.R_nil _ _ _ _ _, by repeat (first | exact Below.refl _ _ | apply below_drew1 | apply pw_below_drewN)⟩
        | true =>
          rw [if_pos rfl] at h
          replace h := Option.bind_eq_some_iff.mp h
          obtain ⟨md, h3, h⟩ := h
          have H3 := Aside0.mk h3
          replace h := Option.bind_eq_some_iff.mp h
          obtain ⟨lt, h4, h⟩ := h
          have H4 := Aside0.mk h4
          clear h3 h4
          split at h
          case isFalse => cases h
          rename_i hfit
          obtain ⟨f1, f2⟩ := hfit
          replace h := Option.bind_eq_some_iff.mp h
          obtain ⟨⟨q1, q2⟩, h5, h⟩ := h
          have H5 := Aside0.mk h5
          clear h5
          split at h
          case isFalse => cases h
          rename_i f5
          obtain ⟨e1_, rfl⟩ := Prod.mk.inj (Option.some.inj h)
          have E1 := Aside0.mk (show putB (rlaid0 a0 md o1 lt a3) 148 (q1 ++ (⟨#[0, 32]⟩ : ByteArray)) = r1 from e1_)
          clear h e1_
          have F := Aside0.mk (show a0.size ≤ 512 ∧ md.size ≤ 412 ∧ o1.size ≤ 388 ∧ a3.size ≤ 355 ∧ q1.size + 2 ≤ 364 from And.intro (show a0.size ≤ 512 by omega) (And.intro f1 (And.intro f2 (And.intro (show a3.size ≤ 355 by omega) f5))))
          clear f1 f2 f5
          have hmk := make512
          go_enter Tryz.func32, Tryz.ntmps32
          go_wp2_with (first | (go_at_call 46; refine (hogsheadref12_zero.calls k a0 false _ Hz.out).mono ?_; rintro e wn ⟨rfl, ⟨nz, rfl⟩⟩; (try clear Hz)) | (go_at_call 46; refine (hogsheadref12_zero.calls k a3 false _ Hy.out).mono ?_; rintro e wn ⟨rfl, ⟨ny, rfl⟩⟩; (try clear Hy)) | (go_at_call 47; refine (hogsheadref12_Octal.calls k a2 11 o1 true _ H1.out).mono ?_; rintro e wn ⟨rfl, ⟨no, rfl⟩⟩; (try clear H1)))
          refine upon_put (Buf.made1 (w0 := w) (w := w.drewN (nz + ny + no)) (pw_below_drewN (Below.refl _ _) _)) 0 a0 (by have := F.out.1; omega) (by have := F.out.1; omega) ?_
          intro W0 hb _
          have HF := Aside0.mk (show Buf w W0 w.heap.size _ from hb)
          clear hb
          go_wp2_with fail
          go_region_with (first | (go_at_call 48; refine (hogsheadref12_mode.calls a1 md _ H3.out).mono ?_; rintro e wn ⟨rfl, hb⟩; have n0_ := Aside0.mk ((HF.out.step (by repeat (first | exact Below.refl _ _ | apply below_drew | apply pw_below_drewN))).step hb); clear HF hb; have HF := n0_; clear n0_) | (refine upon_put HF.out 100 md (by have := F.out.2.1; omega) (by have := F.out.2.1; omega) ?_; intro W1 hb _; clear HF; have HF := Aside0.mk hb; clear hb))
          go_wp2_with fail
          refine upon_put HF.out 108 (⟨#[48, 48, 48, 48, 48, 48, 48]⟩ : ByteArray) (by show _ + _ ≤ 512; decide) (by show _ ≤ _; decide) ?_
          intro W2 hb _
          clear HF
          have HF := Aside0.mk hb
          clear hb
          go_wp2_with fail
          refine upon_put HF.out 116 (⟨#[48, 48, 48, 48, 48, 48, 48]⟩ : ByteArray) (by show _ + _ ≤ 512; decide) (by show _ ≤ _; decide) ?_
          intro W3 hb _
          clear HF
          have HF := Aside0.mk hb
          clear hb
          go_wp2_with fail
          refine upon_put HF.out 124 o1 (by have := F.out.2.2.1; omega) (by have := F.out.2.2.1; omega) ?_
          intro W4 hb _
          clear HF
          have HF := Aside0.mk hb
          clear hb
          go_wp2_with fail
          refine upon_put HF.out 136 (⟨#[48, 48, 48, 48, 48, 48, 48, 48, 48, 48, 48]⟩ : ByteArray) (by show _ + _ ≤ 512; decide) (by show _ ≤ _; decide) ?_
          intro W5 hb _
          clear HF
          have HF := Aside0.mk hb
          clear hb
          go_wp2_with fail
          refine upon_put HF.out 148 (⟨#[32, 32, 32, 32, 32, 32, 32, 32]⟩ : ByteArray) (by show _ + _ ≤ 512; decide) (by show _ ≤ _; decide) ?_
          intro W6 hb _
          clear HF
          have HF := Aside0.mk hb
          clear hb
          go_wp2_with (go_at_call 49; refine (hogsheadref12_letter.calls a1 lt _ H4.out).mono ?_; rintro e wn ⟨rfl, ⟨nl, rfl⟩⟩; have n0_ := Aside0.mk (HF.out.step (pw_below_drewN (Below.refl _ _) nl)); clear HF; have HF := n0_; clear n0_; have hst := HF.out.cell 156 (by decide); have hfr := HF.out.free 156)
          clear hst hfr
          replace HF := Aside0.mk (HF.out.set 156 lt)
          refine upon_put HF.out 157 a3 (by have := F.out.2.2.2.1; omega) (by have := F.out.2.2.2.1; omega) ?_
          intro W7 hb _
          clear HF
          have HF := Aside0.mk hb
          clear hb
          go_wp2_with fail
          refine upon_put HF.out 257 (⟨#[117, 115, 116, 97, 114, 0, 48, 48]⟩ : ByteArray) (by show _ + _ ≤ 512; decide) (by show _ ≤ _; decide) ?_
          intro W8 hb _
          clear HF
          have HF := Aside0.mk hb
          clear hb
          generalize hxs : putB (putB ((putB (putB (putB (putB (putB (putB (putB zeros512 0 a0) 100 md) 108 ⟨#[48, 48, 48, 48, 48, 48, 48]⟩) 116 ⟨#[48, 48, 48, 48, 48, 48, 48]⟩) 124 o1) 136 ⟨#[48, 48, 48, 48, 48, 48, 48, 48, 48, 48, 48]⟩) 148 ⟨#[32, 32, 32, 32, 32, 32, 32, 32]⟩).set 156 lt) 157 a3) 257 ⟨#[117, 115, 116, 97, 114, 0, 48, 48]⟩ = xs at HF
          have HXs := Aside0.mk (show rlaid0 a0 md o1 lt a3 = xs from hxs)
          replace H5 := Aside0.mk (HXs.out ▸ H5.out : hogsheadref12_Octal.f k (sumB xs) 6 = some (q1, q2))
          clear hxs
          go_wp2_with fail
          go_loopw [13, 14] (fun vs vi wr => ∃ (i : Nat), vi = .int .i64 i ∧ i ≤ 512 ∧ vs = .int .i64 (sumB (xs.take i)) ∧ Hid (Buf w wr w.heap.size xs)) (fun _ vi _ => 512 - (intOf vi).toNat)
          case atStart => exact ⟨0, rfl, by omega, rfl, HF.out⟩
          case round =>
            obtain ⟨i, rfl, hi, rfl, hB⟩ := hrel
            by_cases hlt : i < 512
            · have hcell := hB.out.cell i hlt
              go_wp2
              have hl : i < xs.length := by rw [hB.out.len]; exact hlt
              exact ⟨⟨i + 1, rfl, by omega, by rw [sumB_take xs i hl], hB⟩, by simp only [intOf]; omega⟩
            · obtain rfl : i = 512 := by omega
              have ht : xs.take 512 = xs := List.take_of_length_le (by rw [hB.out.len]; exact Nat.le_refl _)
              rw [ht]
              clear ht
              have HB2 := Aside0.mk hB.out
              have hcat : ¬ (9223372036854775807 < q1.size + 2) := by have := F.out.2.2.2.2; omega
              go_wp2_with (go_at_call 47; refine (hogsheadref12_Octal.calls k (sumB xs) 6 q1 q2 _ H5.out).mono ?_; rintro e wq ⟨rfl, ⟨nq, rfl⟩⟩)
              have HBF := Aside0.mk (HB2.out.step (pw_below_drewN (Below.refl _ _) nq))
              clear HB2 hB hcat
              refine upon_put HBF.out 148 (q1 ++ (⟨#[0, 32]⟩ : ByteArray)) (tail_fits q1 F.out.2.2.2.2) (tail_fits2 q1 F.out.2.2.2.2) ?_
              intro WZ hb _
              have HZ := Aside0.mk hb
              clear hb
              go_wp2_with fail
              go_ret2
              refine ⟨_, rfl, ?_, HZ.out.below⟩
              rw [← E1.out, HXs.out]
              exact HZ.out.R
      have e2a : (a2 == 0) = false := beq_eq_false_iff_ne.mpr e2
      have e2b : (a2 != 0) = true := bne_iff_ne.mpr e2
      rw [if_pos ⟨Or.inl e1, e2⟩] at h
      clear e1 e4
      obtain ⟨rfl, rfl⟩ := Prod.mk.inj (Option.some.inj h)
      go_enter Tryz.func32, Tryz.ntmps32
      go_wp2_with (first | (go_at_call 46; refine (hogsheadref12_zero.calls k a0 false _ Hz.out).mono ?_; rintro e wn ⟨rfl, ⟨nz, rfl⟩⟩; (try clear Hz)) | (go_at_call 46; refine (hogsheadref12_zero.calls k a3 false _ Hy.out).mono ?_; rintro e wn ⟨rfl, ⟨ny, rfl⟩⟩; (try clear Hy)))
      go_ret2
      exact ⟨_, rfl, Kd.R_nil _ _ _ _ _, by repeat (first | exact Below.refl _ _ | apply below_drew1 | apply pw_below_drewN)⟩
    have e1a : (a1 == 1) = false := beq_eq_false_iff_ne.mpr e1
    rw [if_neg (fun hc => by rcases hc.1 with hc | hc <;> omega)] at h
    unfold hogsheadref12_Lay.g at h
    replace h := Option.bind_eq_some_iff.mp h
    obtain ⟨⟨o1, o2⟩, h1, h⟩ := h
    have H1 := Aside0.mk h1
    clear h1
    cases o2 with
    | false =>
      rw [if_neg (by simp)] at h
      obtain ⟨rfl, rfl⟩ := Prod.mk.inj (Option.some.inj h)
      go_enter Tryz.func32, Tryz.ntmps32
      go_wp2_with (first | (go_at_call 46; refine (hogsheadref12_zero.calls k a0 false _ Hz.out).mono ?_; rintro e wn ⟨rfl, ⟨nz, rfl⟩⟩; (try clear Hz)) | (go_at_call 46; refine (hogsheadref12_zero.calls k a3 false _ Hy.out).mono ?_; rintro e wn ⟨rfl, ⟨ny, rfl⟩⟩; (try clear Hy)) | (go_at_call 47; refine (hogsheadref12_Octal.calls k a2 11 o1 false _ H1.out).mono ?_; rintro e wn ⟨rfl, ⟨no, rfl⟩⟩; (try clear H1)))
      go_ret2
      exact ⟨_, rfl, Kd.R_nil _ _ _ _ _, by repeat (first | exact Below.refl _ _ | apply below_drew1 | apply pw_below_drewN)⟩
    | true =>
      rw [if_pos rfl] at h
      replace h := Option.bind_eq_some_iff.mp h
      obtain ⟨md, h3, h⟩ := h
      have H3 := Aside0.mk h3
      replace h := Option.bind_eq_some_iff.mp h
      obtain ⟨lt, h4, h⟩ := h
      have H4 := Aside0.mk h4
      clear h3 h4
      split at h
      case isFalse => cases h
      rename_i hfit
      obtain ⟨f1, f2⟩ := hfit
      replace h := Option.bind_eq_some_iff.mp h
      obtain ⟨⟨q1, q2⟩, h5, h⟩ := h
      have H5 := Aside0.mk h5
      clear h5
      split at h
      case isFalse => cases h
      rename_i f5
      obtain ⟨e1_, rfl⟩ := Prod.mk.inj (Option.some.inj h)
      have E1 := Aside0.mk (show putB (rlaid0 a0 md o1 lt a3) 148 (q1 ++ (⟨#[0, 32]⟩ : ByteArray)) = r1 from e1_)
      clear h e1_
      have F := Aside0.mk (show a0.size ≤ 512 ∧ md.size ≤ 412 ∧ o1.size ≤ 388 ∧ a3.size ≤ 355 ∧ q1.size + 2 ≤ 364 from And.intro (show a0.size ≤ 512 by omega) (And.intro f1 (And.intro f2 (And.intro (show a3.size ≤ 355 by omega) f5))))
      clear f1 f2 f5
      have hmk := make512
      go_enter Tryz.func32, Tryz.ntmps32
      go_wp2_with (first | (go_at_call 46; refine (hogsheadref12_zero.calls k a0 false _ Hz.out).mono ?_; rintro e wn ⟨rfl, ⟨nz, rfl⟩⟩; (try clear Hz)) | (go_at_call 46; refine (hogsheadref12_zero.calls k a3 false _ Hy.out).mono ?_; rintro e wn ⟨rfl, ⟨ny, rfl⟩⟩; (try clear Hy)) | (go_at_call 47; refine (hogsheadref12_Octal.calls k a2 11 o1 true _ H1.out).mono ?_; rintro e wn ⟨rfl, ⟨no, rfl⟩⟩; (try clear H1)))
      refine upon_put (Buf.made1 (w0 := w) (w := w.drewN (nz + ny + no)) (pw_below_drewN (Below.refl _ _) _)) 0 a0 (by have := F.out.1; omega) (by have := F.out.1; omega) ?_
      intro W0 hb _
      have HF := Aside0.mk (show Buf w W0 w.heap.size _ from hb)
      clear hb
      go_wp2_with fail
      go_region_with (first | (go_at_call 48; refine (hogsheadref12_mode.calls a1 md _ H3.out).mono ?_; rintro e wn ⟨rfl, hb⟩; have n0_ := Aside0.mk ((HF.out.step (by repeat (first | exact Below.refl _ _ | apply below_drew | apply pw_below_drewN))).step hb); clear HF hb; have HF := n0_; clear n0_) | (refine upon_put HF.out 100 md (by have := F.out.2.1; omega) (by have := F.out.2.1; omega) ?_; intro W1 hb _; clear HF; have HF := Aside0.mk hb; clear hb))
      go_wp2_with fail
      refine upon_put HF.out 108 (⟨#[48, 48, 48, 48, 48, 48, 48]⟩ : ByteArray) (by show _ + _ ≤ 512; decide) (by show _ ≤ _; decide) ?_
      intro W2 hb _
      clear HF
      have HF := Aside0.mk hb
      clear hb
      go_wp2_with fail
      refine upon_put HF.out 116 (⟨#[48, 48, 48, 48, 48, 48, 48]⟩ : ByteArray) (by show _ + _ ≤ 512; decide) (by show _ ≤ _; decide) ?_
      intro W3 hb _
      clear HF
      have HF := Aside0.mk hb
      clear hb
      go_wp2_with fail
      refine upon_put HF.out 124 o1 (by have := F.out.2.2.1; omega) (by have := F.out.2.2.1; omega) ?_
      intro W4 hb _
      clear HF
      have HF := Aside0.mk hb
      clear hb
      go_wp2_with fail
      refine upon_put HF.out 136 (⟨#[48, 48, 48, 48, 48, 48, 48, 48, 48, 48, 48]⟩ : ByteArray) (by show _ + _ ≤ 512; decide) (by show _ ≤ _; decide) ?_
      intro W5 hb _
      clear HF
      have HF := Aside0.mk hb
      clear hb
      go_wp2_with fail
      refine upon_put HF.out 148 (⟨#[32, 32, 32, 32, 32, 32, 32, 32]⟩ : ByteArray) (by show _ + _ ≤ 512; decide) (by show _ ≤ _; decide) ?_
      intro W6 hb _
      clear HF
      have HF := Aside0.mk hb
      clear hb
      go_wp2_with (go_at_call 49; refine (hogsheadref12_letter.calls a1 lt _ H4.out).mono ?_; rintro e wn ⟨rfl, ⟨nl, rfl⟩⟩; have n0_ := Aside0.mk (HF.out.step (pw_below_drewN (Below.refl _ _) nl)); clear HF; have HF := n0_; clear n0_; have hst := HF.out.cell 156 (by decide); have hfr := HF.out.free 156)
      clear hst hfr
      replace HF := Aside0.mk (HF.out.set 156 lt)
      refine upon_put HF.out 157 a3 (by have := F.out.2.2.2.1; omega) (by have := F.out.2.2.2.1; omega) ?_
      intro W7 hb _
      clear HF
      have HF := Aside0.mk hb
      clear hb
      go_wp2_with fail
      refine upon_put HF.out 257 (⟨#[117, 115, 116, 97, 114, 0, 48, 48]⟩ : ByteArray) (by show _ + _ ≤ 512; decide) (by show _ ≤ _; decide) ?_
      intro W8 hb _
      clear HF
      have HF := Aside0.mk hb
      clear hb
      generalize hxs : putB (putB ((putB (putB (putB (putB (putB (putB (putB zeros512 0 a0) 100 md) 108 ⟨#[48, 48, 48, 48, 48, 48, 48]⟩) 116 ⟨#[48, 48, 48, 48, 48, 48, 48]⟩) 124 o1) 136 ⟨#[48, 48, 48, 48, 48, 48, 48, 48, 48, 48, 48]⟩) 148 ⟨#[32, 32, 32, 32, 32, 32, 32, 32]⟩).set 156 lt) 157 a3) 257 ⟨#[117, 115, 116, 97, 114, 0, 48, 48]⟩ = xs at HF
      have HXs := Aside0.mk (show rlaid0 a0 md o1 lt a3 = xs from hxs)
      replace H5 := Aside0.mk (HXs.out ▸ H5.out : hogsheadref12_Octal.f k (sumB xs) 6 = some (q1, q2))
      clear hxs
      go_wp2_with fail
      go_loopw [13, 14] (fun vs vi wr => ∃ (i : Nat), vi = .int .i64 i ∧ i ≤ 512 ∧ vs = .int .i64 (sumB (xs.take i)) ∧ Hid (Buf w wr w.heap.size xs)) (fun _ vi _ => 512 - (intOf vi).toNat)
      case atStart => exact ⟨0, rfl, by omega, rfl, HF.out⟩
      case round =>
        obtain ⟨i, rfl, hi, rfl, hB⟩ := hrel
        by_cases hlt : i < 512
        · have hcell := hB.out.cell i hlt
          go_wp2
          have hl : i < xs.length := by rw [hB.out.len]; exact hlt
          exact ⟨⟨i + 1, rfl, by omega, by rw [sumB_take xs i hl], hB⟩, by simp only [intOf]; omega⟩
        · obtain rfl : i = 512 := by omega
          have ht : xs.take 512 = xs := List.take_of_length_le (by rw [hB.out.len]; exact Nat.le_refl _)
          rw [ht]
          clear ht
          have HB2 := Aside0.mk hB.out
          have hcat : ¬ (9223372036854775807 < q1.size + 2) := by have := F.out.2.2.2.2; omega
          go_wp2_with (go_at_call 47; refine (hogsheadref12_Octal.calls k (sumB xs) 6 q1 q2 _ H5.out).mono ?_; rintro e wq ⟨rfl, ⟨nq, rfl⟩⟩)
          have HBF := Aside0.mk (HB2.out.step (pw_below_drewN (Below.refl _ _) nq))
          clear HB2 hB hcat
          refine upon_put HBF.out 148 (q1 ++ (⟨#[0, 32]⟩ : ByteArray)) (tail_fits q1 F.out.2.2.2.2) (tail_fits2 q1 F.out.2.2.2.2) ?_
          intro WZ hb _
          have HZ := Aside0.mk hb
          clear hb
          go_wp2_with fail
          go_ret2
          refine ⟨_, rfl, ?_, HZ.out.below⟩
          rw [← E1.out, HXs.out]
          exact HZ.out.R
  have e0a : (a3.toList == []) = false := beq_eq_false_iff_ne.mpr e0
  have e0b : a3.toList.isEmpty = false := by cases hl : a3.toList <;> simp_all
  rw [e4a, e0a, if_pos (by decide)] at h
  obtain ⟨rfl, rfl⟩ := Prod.mk.inj (Option.some.inj h)
  go_enter Tryz.func32, Tryz.ntmps32
  go_wp2_with (first | (go_at_call 46; refine (hogsheadref12_zero.calls k a0 false _ Hz.out).mono ?_; rintro e wn ⟨rfl, ⟨nz, rfl⟩⟩; (try clear Hz)) | (go_at_call 46; refine (hogsheadref12_zero.calls k a3 false _ Hy.out).mono ?_; rintro e wn ⟨rfl, ⟨ny, rfl⟩⟩; (try clear Hy)))
  go_ret2
  exact ⟨_, rfl, Kd.R_nil _ _ _ _ _, by repeat (first | exact Below.refl _ _ | apply below_drew1 | apply pw_below_drewN)⟩
end Go.Proofs.YtdijnmcfpbceaaaGreatDoor.X

namespace Go.Proofs.YtdijnmcfpbceaaaGreatDoor.X
open Go.RowKit Go.Proofs.YtdijnmcfpbceaaaGreatDoorW.PrintWords Go.Proofs.YtdijnmcfpbceaaaGreatDoor.P
set_option linter.unusedVariables false
set_option linter.unusedSimpArgs false
theorem sumB_lt (xs : List Int) : -9223372036854775808 ≤ sumB xs ∧ sumB xs < 9223372036854775808 := by
  unfold sumB
  have : ∀ (l : List Int) (s : Int), (-9223372036854775808 ≤ s ∧ s < 9223372036854775808) → (-9223372036854775808 ≤ l.foldl (fun s x => wrap64 (s + wrap64 x)) s ∧ l.foldl (fun s x => wrap64 (s + wrap64 x)) s < 9223372036854775808) := by
    intro l
    induction l with
    | nil => intro s h; exact h
    | cons x l ih =>
      intro s h
      refine ih (wrap64 (s + wrap64 x)) ?_
      clear ih h
      generalize s + wrap64 x = y
      unfold wrap64
      omega
  exact this xs 0 (by omega)
def MayR (a0 : ByteArray) (a1 a2 : Int) (a3 : ByteArray) : Prop :=
  a0.size ≠ 0 ∧ a0.size ≤ 100 ∧ (0 : UInt8) ∉ a0.data.toList ∧ a3.size ≤ 100 ∧ (0 : UInt8) ∉ a3.data.toList ∧ 1 ≤ a1 ∧ a1 ≤ 5 ∧ (a1 = 4 ↔ a3.size ≠ 0) ∧ (a2 = 0 ∨ (a1 ≠ 1 ∧ a1 ≠ 4))
instance (a0 : ByteArray) (a1 a2 : Int) (a3 : ByteArray) : Decidable (MayR a0 a1 a2 a3) := by unfold MayR; infer_instance
def modeR (k : Int) : ByteArray := if k = 1 ∨ k = 3 then ⟨#[48, 48, 48, 48, 55, 53, 53]⟩ else if k = 4 then ⟨#[48, 48, 48, 48, 55, 55, 55]⟩ else ⟨#[48, 48, 48, 48, 54, 52, 52]⟩
def signR (k : Int) : UInt8 := if k = 1 then 53 else if k = 4 then 50 else if k = 5 then 120 else 48
def laidR (a0 : ByteArray) (a1 : Int) (n : Nat) (a3 : ByteArray) : List Int := laid0 a0 (modeR a1) ⟨(octP 11 n).toArray⟩ ⟨#[signR a1]⟩ a3
def layB (a0 : ByteArray) (a1 : Int) (n : Nat) (a3 : ByteArray) : List Int := putB (laidR a0 a1 n a3) 148 ((octR (sumB (laidR a0 a1 n a3)) 6).1 ++ ⟨#[0, 32]⟩)
def layR (a0 : ByteArray) (a1 a2 : Int) (a3 : ByteArray) : List Int × Bool := if MayR a0 a1 a2 a3 ∧ 0 ≤ a2 ∧ a2.toNat < 8589934592 then (layB a0 a1 a2.toNat a3, true) else ([], false)
theorem octR_yes (n : Nat) (h : n < 8589934592) : octR (n : Int) 11 = (⟨(octP 11 n).toArray⟩, true) := by
  unfold octR
  rw [if_pos ⟨by omega, by omega, by omega, by rw [Int.toNat_natCast]; exact h⟩]
  rfl
theorem octR_no (a : Int) (h : ¬ (0 ≤ a ∧ a.toNat < 8589934592)) : octR a 11 = (⟨#[]⟩, false) := by
  unfold octR
  rw [if_neg (fun x => h ⟨x.1, x.2.2.2⟩)]
theorem octR_size (a : Int) : (octR a 6).1.size ≤ 6 := by
  unfold octR
  split
  · rw [size_mk, octP_length]; exact Nat.le_refl 6
  · decide
theorem text_eq (s : ByteArray) : head_text.f s = some (decide (s.size ≤ 100 ∧ (0 : UInt8) ∉ s.data.toList)) := by
  unfold head_text.f
  by_cases h : s.size ≤ 100
  · rw [if_pos (by omega)]
    show some (decide (Lib.indexByte s.data.toList 0 < 0)) = _
    congr 1
    rw [decide_eq_decide, indexByte_none]
    simp [h]
  · rw [if_neg (by omega), decide_eq_false (fun x => h x.1)]
theorem may_eq (a0 : ByteArray) (a1 a2 : Int) (a3 : ByteArray) : head_may.f a0 a1 a2 a3 = some (decide (MayR a0 a1 a2 a3)) := by
  unfold head_may.f
  by_cases h0 : a0.size = 0
  · rw [if_pos ((toList_nil a0).2 h0), decide_eq_false (fun x => x.1 h0)]
  rw [if_neg (fun x => h0 ((toList_nil a0).1 x)), text_eq]
  simp only [Option.bind_some]
  by_cases h1 : a0.size ≤ 100 ∧ (0 : UInt8) ∉ a0.data.toList
  rotate_left
  · rw [if_neg (by rw [decide_eq_true_iff]; exact h1), decide_eq_false (fun x => h1 ⟨x.2.1, x.2.2.1⟩)]
  rw [if_pos (by rw [decide_eq_true_iff]; exact h1), text_eq]
  simp only [Option.bind_some]
  by_cases h2 : a3.size ≤ 100 ∧ (0 : UInt8) ∉ a3.data.toList
  rotate_left
  · rw [if_neg (by rw [decide_eq_true_iff]; exact h2), decide_eq_false (fun x => h2 ⟨x.2.2.2.1, x.2.2.2.2.1⟩)]
  rw [if_pos (by rw [decide_eq_true_iff]; exact h2)]
  by_cases h3 : a1 < 1
  · rw [if_pos h3, decide_eq_false (fun x => by have := x.2.2.2.2.2.1; omega)]
  rw [if_neg h3]
  by_cases h4 : 5 < a1
  · rw [if_pos (by omega), decide_eq_false (fun x => by have := x.2.2.2.2.2.2.1; omega)]
  rw [if_neg (by omega)]
  have e3 : (a3.toList != ([] : List UInt8)) = decide (a3.size ≠ 0) := by
    rw [Bool.eq_iff_iff, bne_iff_ne, decide_eq_true_iff]
    exact not_congr (toList_nil a3)
  have e4 : (a1 == 4) = decide (a1 = 4) := by rw [Bool.eq_iff_iff, beq_iff_eq, decide_eq_true_iff]
  rw [e3, e4]
  by_cases h5 : a1 = 4 ↔ a3.size ≠ 0
  rotate_left
  · rw [if_neg (by rw [beq_iff_eq, decide_eq_decide]; exact fun x => h5 x.symm), decide_eq_false (fun x => h5 x.2.2.2.2.2.2.2.1)]
  rw [if_pos (by rw [beq_iff_eq, decide_eq_decide]; exact h5.symm)]
  by_cases h6 : a2 = 0
  · rw [if_pos h6, decide_eq_true]
    exact ⟨h0, h1.1, h1.2, h2.1, h2.2, by omega, by omega, h5, Or.inl h6⟩
  rw [if_neg h6]
  by_cases h7 : a1 = 1
  · rw [if_pos h7, decide_eq_false (fun x => by have := x.2.2.2.2.2.2.2.2; omega)]
  rw [if_neg h7]
  congr 1
  by_cases h8 : a1 = 4
  · rw [decide_eq_false (fun x => by have := x.2.2.2.2.2.2.2.2; omega), h8]; rfl
  · rw [decide_eq_true (show MayR a0 a1 a2 a3 from ⟨h0, h1.1, h1.2, h2.1, h2.2, by omega, by omega, h5, Or.inr ⟨h7, h8⟩⟩)]
    simpa using h8
theorem mode_eq (k : Nat) (a : Int) : head_mode.f (k + 1) a = some (modeR a) := by
  unfold head_mode.f modeR
  by_cases h1 : a = 1
  · subst h1; rfl
  rw [if_neg h1]
  simp only [head_mode.j0]
  by_cases h3 : a = 3
  · subst h3; rfl
  have e3 : (a == 3) = false := by simpa using h3
  rw [e3, if_neg (by simp), if_neg (show ¬ (a = 1 ∨ a = 3) by omega)]
  split <;> rfl
theorem sign_eq (a : Int) : head_sign.f a = some ⟨#[signR a]⟩ := by
  unfold head_sign.f signR
  split
  · rfl
  split
  · rfl
  split <;> rfl
theorem modeR_size (a : Int) : (modeR a).size = 7 := by
  unfold modeR
  split
  · rfl
  split <;> rfl
theorem lay_eq (k : Nat) (a0 : ByteArray) (a1 a2 : Int) (a3 : ByteArray) (h2 : a2 < 9223372036854775808) : head_Lay.f (k + 1) a0 a1 a2 a3 = some (layR a0 a1 a2 a3) := by
  unfold head_Lay.f layR
  rw [octal_eq k a2 11 h2]
  simp only [Option.bind_some]
  by_cases h : 0 ≤ a2 ∧ a2.toNat < 8589934592
  rotate_left
  · rw [octR_no a2 h, if_neg (by simp), if_neg (fun x => h x.2)]
  obtain ⟨n, rfl⟩ := Int.eq_ofNat_of_zero_le h.1
  have hn : n < 8589934592 := by have := h.2; omega
  rw [octR_yes n hn, may_eq]
  simp only [if_true, Option.bind_some]
  by_cases hm : MayR a0 a1 n a3
  rotate_left
  · rw [if_neg (by simpa using hm), if_neg (fun x => hm x.1)]
  rw [if_pos (by simpa using hm), if_pos ⟨hm, h⟩, mode_eq, sign_eq]
  simp only [Option.bind_some]
  have e1 : (⟨#[signR a1]⟩ : ByteArray).size = 1 := rfl
  rw [if_pos ⟨by have := hm.2.1; omega, by rw [modeR_size]; omega, by rw [size_mk, octP_length]; omega, by rw [e1]; omega, by have := hm.2.2.2.1; omega⟩, octal_eq k _ 6 (sumB_lt _).2]
  simp only [Option.bind_some]
  rw [if_pos (by have := octR_size (sumB (laid0 a0 (modeR a1) ⟨(octP 11 n).toArray⟩ ⟨#[signR a1]⟩ a3)); omega), Int.toNat_natCast]
  rfl
end Go.Proofs.YtdijnmcfpbceaaaGreatDoor.X

namespace Go.Proofs.YtdijnmcfpbceaaaGreatDoor.X
open Go.RowKit Go.Proofs.YtdijnmcfpbceaaaGreatDoorW.PrintWords Go.Proofs.YtdijnmcfpbceaaaGreatDoor.P
set_option linter.unusedVariables false
set_option linter.unusedSimpArgs false
theorem zero_l0 (s : ByteArray) (hn : s.size ≤ 9223372036854775807) : ∀ (d i : Nat), s.size - i = d → i ≤ s.size → Ev (fun k => hogsheadref12_zero.l0 k s (i : Int)) (decide ((0 : UInt8) ∈ s.data.toList.drop i)) := by
  intro d
  induction d with
  | zero =>
    intro i hd hi
    refine ⟨1, fun k hk => ?_⟩
    obtain ⟨k, rfl⟩ : ∃ m, k = m + 1 := ⟨k - 1, by omega⟩
    simp only [hogsheadref12_zero.l0]
    rw [if_neg (by omega), List.drop_eq_nil_of_le (by rw [data_length]; omega)]
    rfl
  | succ d ih =>
    intro i hd hi
    have hlt : i < s.size := by omega
    obtain ⟨K, hK⟩ := ih (i + 1) (by omega) (by omega)
    refine ⟨K + 1, fun k hk => ?_⟩
    obtain ⟨k, rfl⟩ : ∃ m, k = m + 1 := ⟨k - 1, by omega⟩
    simp only [hogsheadref12_zero.l0]
    rw [if_pos (by omega), if_pos (by omega), bt_nat s i hlt, drop_data s i hlt]
    generalize s.data.toList[i]'(by rw [data_length]; exact hlt) = c
    by_cases e : c = 0
    · subst e
      rw [if_pos (show (((0 : UInt8).toNat : Nat) : Int) = 0 from rfl), decide_eq_true List.mem_cons_self]
    · have ne : ¬ (c.toNat : Int) = 0 := fun x => e (UInt8.toNat_inj.1 (by have : (0 : UInt8).toNat = 0 := rfl; omega))
      rw [if_neg ne, wrap_i i s.size hlt hn]
      have := hK k (by omega)
      simp only at this
      rw [this]
      congr 1
      rw [decide_eq_decide, List.mem_cons]
      exact ⟨Or.inr, fun x => x.elim (fun y => absurd y.symm e) id⟩
theorem zero_eq (s : ByteArray) (hn : s.size ≤ 9223372036854775807) : Ev (fun k => hogsheadref12_zero.f k s) (decide ((0 : UInt8) ∈ s.data.toList)) := zero_l0 s hn s.size 0 (by omega) (by omega)
theorem kinds (a : Int) (h1 : 1 ≤ a) (h5 : a ≤ 5) : a = 1 ∨ a = 2 ∨ a = 3 ∨ a = 4 ∨ a = 5 := by omega
theorem ref_mode_eq (a : Int) (h1 : 1 ≤ a) (h5 : a ≤ 5) : hogsheadref12_mode.f a = some (modeR a) := by
  rcases kinds a h1 h5 with rfl | rfl | rfl | rfl | rfl <;> rfl
theorem ref_letter_eq (a : Int) (h1 : 1 ≤ a) (h5 : a ≤ 5) : hogsheadref12_letter.f a = some ((signR a).toNat : Int) := by
  rcases kinds a h1 h5 with rfl | rfl | rfl | rfl | rfl <;> rfl
theorem putB_one (xs : List Int) (p : Nat) (c : UInt8) (h : p < xs.length) : putB xs p ⟨#[c]⟩ = xs.set p (c.toNat : Int) := by
  rw [List.set_eq_take_append_cons_drop, if_pos h]
  show xs.take p ++ [(c.toNat : Int)] ++ xs.drop (p + 1) = _
  rw [List.append_assoc]
  rfl
theorem rlaid_eq (name md dg link : ByteArray) (c : UInt8) (h0 : name.size ≤ 100) (h1 : md.size ≤ 400) (h2 : dg.size ≤ 300) : rlaid0 name md dg (c.toNat : Int) link = laid0 name md dg ⟨#[c]⟩ link := by
  unfold rlaid0 laid0
  rw [putB_one]
  have z : zeros512.length = 512 := by rw [zeros512, List.length_replicate]
  have s7 : (⟨#[48, 48, 48, 48, 48, 48, 48]⟩ : ByteArray).size = 7 := rfl
  have s11 : (⟨#[48, 48, 48, 48, 48, 48, 48, 48, 48, 48, 48]⟩ : ByteArray).size = 11 := rfl
  have s8 : (⟨#[32, 32, 32, 32, 32, 32, 32, 32]⟩ : ByteArray).size = 8 := rfl
  have l1 : (putB zeros512 0 name).length = 512 := by rw [putB_length (by rw [z]; omega), z]
  have l2 : (putB (putB zeros512 0 name) 100 md).length = 512 := by rw [putB_length (by rw [l1]; omega), l1]
  have l3 := putB_length (xs := putB (putB zeros512 0 name) 100 md) (p := 108) (s := ⟨#[48, 48, 48, 48, 48, 48, 48]⟩) (by rw [l2, s7]; omega)
  rw [l2] at l3
  generalize putB (putB (putB zeros512 0 name) 100 md) 108 ⟨#[48, 48, 48, 48, 48, 48, 48]⟩ = x3 at *
  have l4 := putB_length (xs := x3) (p := 116) (s := ⟨#[48, 48, 48, 48, 48, 48, 48]⟩) (by rw [l3, s7]; omega)
  rw [l3] at l4
  generalize putB x3 116 ⟨#[48, 48, 48, 48, 48, 48, 48]⟩ = x4 at *
  have l5 := putB_length (xs := x4) (p := 124) (s := dg) (by rw [l4]; omega)
  rw [l4] at l5
  generalize putB x4 124 dg = x5 at *
  have l6 := putB_length (xs := x5) (p := 136) (s := ⟨#[48, 48, 48, 48, 48, 48, 48, 48, 48, 48, 48]⟩) (by rw [l5, s11]; omega)
  rw [l5] at l6
  generalize putB x5 136 ⟨#[48, 48, 48, 48, 48, 48, 48, 48, 48, 48, 48]⟩ = x6 at *
  rw [putB_length (by rw [l6, s8]; omega), l6]
  omega
set_option maxHeartbeats 1600000 in
theorem ref_lay_eq (a0 : ByteArray) (a1 a2 : Int) (a3 : ByteArray) (h2 : a2 < 9223372036854775808) : Ev (fun k => hogsheadref12_Lay.f k a0 a1 a2 a3) (layR a0 a1 a2 a3) := by
  by_cases g0 : a0.size = 0
  · refine ⟨0, fun k hk => ?_⟩
    show hogsheadref12_Lay.f k a0 a1 a2 a3 = _
    unfold hogsheadref12_Lay.f layR
    rw [if_pos ((toList_nil a0).2 g0), if_neg (fun x => x.1.1 g0)]
  by_cases g1 : (100 : Int) < a0.size
  · refine ⟨0, fun k hk => ?_⟩
    show hogsheadref12_Lay.f k a0 a1 a2 a3 = _
    unfold hogsheadref12_Lay.f layR
    rw [if_neg (fun x => g0 ((toList_nil a0).1 x)), if_pos g1, if_neg (fun x => by have := x.1.2.1; omega)]
  obtain ⟨K0, k0⟩ := zero_eq a0 (by omega)
  by_cases g2 : (0 : UInt8) ∈ a0.data.toList
  · refine ⟨K0, fun k hk => ?_⟩
    have k0 := k0 k (by omega)
    simp only at k0
    show hogsheadref12_Lay.f k a0 a1 a2 a3 = _
    unfold hogsheadref12_Lay.f layR
    rw [if_neg (fun x => g0 ((toList_nil a0).1 x)), if_neg g1, k0, decide_eq_true g2, if_neg (show ¬ (MayR a0 a1 a2 a3 ∧ 0 ≤ a2 ∧ a2.toNat < 8589934592) from fun x => x.1.2.2.1 g2)]
    rfl
  by_cases g3 : (100 : Int) < a3.size
  · refine ⟨K0, fun k hk => ?_⟩
    have k0 := k0 k (by omega)
    simp only at k0
    show hogsheadref12_Lay.f k a0 a1 a2 a3 = _
    unfold hogsheadref12_Lay.f layR
    rw [if_neg (fun x => g0 ((toList_nil a0).1 x)), if_neg g1, k0, decide_eq_false g2]
    simp only [Option.bind_some]
    rw [if_neg (by simp), if_pos g3, if_neg (fun x => by have := x.1.2.2.2.1; omega)]
  obtain ⟨K1, k1⟩ := zero_eq a3 (by omega)
  refine ⟨K0 + K1 + 14, fun k hk => ?_⟩
  have k0 := k0 k (by omega)
  have k1 := k1 k (by omega)
  simp only at k0 k1
  show hogsheadref12_Lay.f k a0 a1 a2 a3 = _
  unfold hogsheadref12_Lay.f layR
  rw [if_neg (fun x => g0 ((toList_nil a0).1 x)), if_neg g1, k0, decide_eq_false g2, k1]
  simp only [Option.bind_some]
  rw [if_neg (by simp), if_neg g3]
  by_cases g4 : (0 : UInt8) ∈ a3.data.toList
  · rw [decide_eq_true g4, if_pos rfl, if_neg (fun x => x.1.2.2.2.2.1 g4)]
  rw [decide_eq_false g4, if_neg (by simp)]
  by_cases g5 : a1 < 1
  · rw [if_pos g5, if_neg (fun x => by have := x.1.2.2.2.2.2.1; omega)]
  rw [if_neg g5]
  by_cases g6 : 5 < a1
  · rw [if_pos g6, if_neg (fun x => by have := x.1.2.2.2.2.2.2.1; omega)]
  rw [if_neg g6]
  have e3 : (a3.toList == ([] : List UInt8)) = decide (a3.size = 0) := by
    rw [Bool.eq_iff_iff, beq_iff_eq, decide_eq_true_iff]
    exact toList_nil a3
  have e4 : (a1 == 4) = decide (a1 = 4) := by rw [Bool.eq_iff_iff, beq_iff_eq, decide_eq_true_iff]
  rw [e3, e4]
  by_cases g7 : (a1 = 4 ↔ a3.size ≠ 0)
  rotate_left
  · rw [if_pos (by by_cases x : a1 = 4 <;> by_cases y : a3.size = 0 <;> simp [x, y] at g7 ⊢), if_neg (show ¬ (MayR a0 a1 a2 a3 ∧ 0 ≤ a2 ∧ a2.toNat < 8589934592) from fun x => g7 x.1.2.2.2.2.2.2.2.1)]
  rw [if_neg (by by_cases x : a1 = 4 <;> by_cases y : a3.size = 0 <;> simp [x, y] at g7 ⊢)]
  by_cases g8 : (a1 = 1 ∨ a1 = 4) ∧ a2 ≠ 0
  · rw [if_pos g8, if_neg (fun x => by have := x.1.2.2.2.2.2.2.2.2; omega)]
  rw [if_neg g8]
  have hm : MayR a0 a1 a2 a3 := ⟨g0, by omega, g2, by omega, g4, by omega, by omega, g7, by omega⟩
  unfold hogsheadref12_Lay.g
  rw [ref_octal_eq k (by omega) a2 11 h2]
  simp only [Option.bind_some]
  by_cases h : 0 ≤ a2 ∧ a2.toNat < 8589934592
  rotate_left
  · rw [octR_no a2 h, if_neg (by simp), if_neg (fun x => h x.2)]
  obtain ⟨n, rfl⟩ := Int.eq_ofNat_of_zero_le h.1
  have hn : n < 8589934592 := by have := h.2; omega
  rw [octR_yes n hn, ref_mode_eq a1 (by omega) (by omega), ref_letter_eq a1 (by omega) (by omega), if_pos (show MayR a0 a1 (n : Int) a3 ∧ 0 ≤ (n : Int) ∧ (n : Int).toNat < 8589934592 from ⟨hm, h⟩)]
  simp only [if_true, Option.bind_some]
  rw [if_pos ⟨by rw [modeR_size]; omega, by rw [size_mk, octP_length]; omega⟩, rlaid_eq a0 _ _ _ _ (by omega) (by rw [modeR_size]; omega) (by rw [size_mk, octP_length]; omega), ref_octal_eq k (by omega) _ 6 (sumB_lt _).2]
  simp only [Option.bind_some]
  rw [if_pos (by have := octR_size (sumB (laid0 a0 (modeR a1) ⟨(octP 11 n).toArray⟩ ⟨#[signR a1]⟩ a3)); omega), Int.toNat_natCast]
  rfl
end Go.Proofs.YtdijnmcfpbceaaaGreatDoor.X

namespace Go.Proofs.YtdijnmcfpbceaaaGreatDoor.P
open Go.Proofs.YtdijnmcfpbceaaaGreatDoor.X
open Go.RowKit Go.Proofs.YtdijnmcfpbceaaaGreatDoorW.PrintWords Go.Proofs.YtdijnmcfpbceaaaGreatDoorW.PrintLast Go.Proofs.YtdijnmcfpbceaaaGreatDoorW.PrintMore
attribute [local go_sem] min2_int min_two
set_option linter.unusedVariables false
set_option linter.unusedSimpArgs false
def hogsheadlaw0_SameBytes.l0 : Nat → List Int → List Int → Int → Option (Bool)
 | 0, _, _, _ => none
 | k + 1, x0, x1, x5 => if x5 < (x0.length : Int) then (if 0 ≤ x5 then (if x5 < (x1.length : Int) then (if (rd x0 x5) = (rd x1 x5) then (hogsheadlaw0_SameBytes.l0 k x0 x1 (wrap64 (x5 + 1))) else (some false)) else (none)) else (none)) else (some true)
def hogsheadlaw0_SameBytes.f (k : Nat) (l0 : List Int) (l1 : List Int) : Option (Bool) := if (l0.length : Int) = (l1.length : Int) then (hogsheadlaw0_SameBytes.l0 k l0 l1 0) else (some false)
set_option maxHeartbeats 8000000 in
set_option maxRecDepth 100000 in
theorem hogsheadlaw0_SameBytes.calls (k : Nat) (A0 : Option Addr) (c0 : Nat) (l0 : List Int) (A1 : Option Addr) (c1 : Nat) (l1 : List Int) (r : Bool) (w : World) (hr0 : Kd.C (Kd.int .u8) w A0 l0.length l0) (hc0 : l0.length ≤ c0) (hr1 : Kd.C (Kd.int .u8) w A1 l1.length l1) (hc1 : l1.length ≤ c1) (h : hogsheadlaw0_SameBytes.f k l0 l1 = some r) :
  Calls Tryz.prog 12 #[.slice A0 l0.length c0, .slice A1 l1.length c1] w fun e w' => e = .returned (.bool r) ∧ Drawn0 w w' := by
 have HR0 := Aside0.mk hr0
 have HC0 := Aside0.mk hc0
 clear hr0 hc0
 have HR1 := Aside0.mk hr1
 have HC1 := Aside0.mk hc1
 clear hr1 hc1
 have H : (if (l0.length : Int) = (l1.length : Int) then (hogsheadlaw0_SameBytes.l0 k l0 l1 0) else (some false)) = some r := h
 clear h
 by_cases c3 : (l0.length : Int) = (l1.length : Int)
 ·rw [if_pos c3] at H
  have c3b0 : ((l0.length : Int) == (l1.length : Int)) = true := beq_iff_eq.mpr c3
  have c3b1 : ((l0.length : Int) != (l1.length : Int)) = false := bne_eq_false_iff_eq.mpr c3
  have c3b2 : (l0.length == l1.length) = true := by first | simpa using c3 | (simp at c3 ⊢; omega)
  clear c3
  have H' := Aside0.mk H
  clear H
  go_enter Tryz.func12, Tryz.ntmps12
  go_wp2
  repeat (go_quiet (fail); try go_wp2)
  go_loopg [5] k (fun kq v5 w' => ∃ (x5_1 : Int), v5 = .int .i64 x5_1 ∧ Aside0 (hogsheadlaw0_SameBytes.l0 kq l0 l1 x5_1 = some r) ∧ Aside0 (kq ≤ k) ∧ Drawn0 w w')
  case atStart => exact ⟨(0), (by first | rfl | (simp; done) | (simp [*]; done) | exact congrArg Value.bool (nil_ne _) | exact congrArg Value.bool (nil_eq _) | exact congrArg Value.bool (nil_ne' _)), H', ⟨Nat.le_refl _⟩, by repeat (first | exact Drawn0.refl _ | apply Drawn0.step)⟩
  case round =>
   clear H'
   try clear c1
   try clear p2
   try clear c3
   try clear c3b0
   try clear c3b1
   try clear c3b2
   obtain ⟨x5_1, rfl, HA, HK1, ⟨m1, rfl⟩⟩ := hrel
   cases gk with
   | zero => exact absurd HA.out (by simp [hogsheadlaw0_SameBytes.l0])
   | succ k1 =>
    have H := HA.out
    clear HA
    simp only [hogsheadlaw0_SameBytes.l0] at H
    by_cases c4 : x5_1 < (l0.length : Int)
    ·rw [if_pos c4] at H
     have c4b0 : decide (x5_1 < (l0.length : Int)) = true := decide_eq_true c4
     clear c4
     by_cases c5 : 0 ≤ x5_1
     ·rw [if_pos c5] at H
      have c5b0 : decide (0 ≤ x5_1) = true := decide_eq_true c5
      clear c5
      by_cases c6 : x5_1 < (l1.length : Int)
      ·rw [if_pos c6] at H
       have c6b0 : decide (x5_1 < (l1.length : Int)) = true := decide_eq_true c6
       clear c6
       by_cases c7 : (rd l0 x5_1) = (rd l1 x5_1)
       ·rw [if_pos c7] at H
        have c7b0 : ((rd l0 x5_1) == (rd l1 x5_1)) = true := beq_iff_eq.mpr c7
        have c7b1 : ((rd l0 x5_1) != (rd l1 x5_1)) = false := bne_eq_false_iff_eq.mpr c7
        clear c7
        have H' := Aside0.mk H
        clear H
        have p175 : 0 ≤ (x5_1 : Int) := of_decide_eq_true (by first | (with_reducible assumption) | assumption)
        have q175 : x5_1 < (l0.length : Int) := of_decide_eq_true (by first | (with_reducible assumption) | assumption)
        obtain ⟨ad175, e175, hx175_0⟩ := Kd.at_int HR0.out x5_1 p175 q175
        cases e175
        replace p175 := eq_true p175
        replace q175 := eq_true q175
        have p176 : 0 ≤ (x5_1 : Int) := of_decide_eq_true (by first | (with_reducible assumption) | assumption)
        have q176 : x5_1 < (l1.length : Int) := of_decide_eq_true (by first | (with_reducible assumption) | assumption)
        obtain ⟨ad176, e176, hx176_0⟩ := Kd.at_int HR1.out x5_1 p176 q176
        cases e176
        replace p176 := eq_true p176
        replace q176 := eq_true q176
        go_wp2
        repeat (go_quiet (fail); try go_wp2)
        go_roundg k1
        case measure => have := HK1.out; omega
        case rel => exact ⟨(wrap64 (x5_1 + 1)), (by first | rfl | (simp; done) | (simp [*]; done) | exact congrArg Value.bool (nil_ne _) | exact congrArg Value.bool (nil_eq _) | exact congrArg Value.bool (nil_ne' _)), H', ⟨by have := HK1.out; omega⟩, by repeat (first | exact Drawn0.refl _ | apply Drawn0.step)⟩
       ·rw [if_neg c7] at H
        have c7b0 : ((rd l0 x5_1) == (rd l1 x5_1)) = false := beq_eq_false_iff_ne.mpr c7
        have c7b1 : ((rd l0 x5_1) != (rd l1 x5_1)) = true := bne_iff_ne.mpr c7
        obtain rfl := Option.some.inj H
        have p175 : 0 ≤ (x5_1 : Int) := of_decide_eq_true (by first | (with_reducible assumption) | assumption)
        have q175 : x5_1 < (l0.length : Int) := of_decide_eq_true (by first | (with_reducible assumption) | assumption)
        obtain ⟨ad175, e175, hx175_0⟩ := Kd.at_int HR0.out x5_1 p175 q175
        cases e175
        replace p175 := eq_true p175
        replace q175 := eq_true q175
        have p176 : 0 ≤ (x5_1 : Int) := of_decide_eq_true (by first | (with_reducible assumption) | assumption)
        have q176 : x5_1 < (l1.length : Int) := of_decide_eq_true (by first | (with_reducible assumption) | assumption)
        obtain ⟨ad176, e176, hx176_0⟩ := Kd.at_int HR1.out x5_1 p176 q176
        cases e176
        replace p176 := eq_true p176
        replace q176 := eq_true q176
        go_wp2
        repeat (go_quiet (fail); try go_wp2)
        go_ret
        exact ⟨by first | rfl | (simp; done) | (simp [*]; done), by repeat (first | exact Drawn0.refl _ | apply Drawn0.step)⟩
      ·rw [if_neg c6] at H
       exact absurd H (by simp)
     ·rw [if_neg c5] at H
      exact absurd H (by simp)
    ·rw [if_neg c4] at H
     have c4b0 : decide (x5_1 < (l0.length : Int)) = false := decide_eq_false c4
     clear c4
     obtain rfl := Option.some.inj H
     go_wp2
     repeat (go_quiet (fail); try go_wp2)
     go_ret
     exact ⟨by first | rfl | (simp; done) | (simp [*]; done), by repeat (first | exact Drawn0.refl _ | apply Drawn0.step)⟩
 ·rw [if_neg c3] at H
  have c3b0 : ((l0.length : Int) == (l1.length : Int)) = false := beq_eq_false_iff_ne.mpr c3
  have c3b1 : ((l0.length : Int) != (l1.length : Int)) = true := bne_iff_ne.mpr c3
  have c3b2 : (l0.length == l1.length) = false := by first | simpa using c3 | (simp at c3 ⊢; omega)
  obtain rfl := Option.some.inj H
  go_enter Tryz.func12, Tryz.ntmps12
  go_wp2
  repeat (go_quiet (fail); try go_wp2)
  go_ret
  exact ⟨by first | rfl | (simp; done) | (simp [*]; done), by repeat (first | exact Drawn0.refl _ | apply Drawn0.step)⟩
end Go.Proofs.YtdijnmcfpbceaaaGreatDoor.P

namespace Go.Proofs.YtdijnmcfpbceaaaGreatDoor.P
open Go.Proofs.YtdijnmcfpbceaaaGreatDoor.X
open Go.RowKit Go.Proofs.YtdijnmcfpbceaaaGreatDoorW.PrintWords Go.Proofs.YtdijnmcfpbceaaaGreatDoorW.PrintLast Go.Proofs.YtdijnmcfpbceaaaGreatDoorW.PrintMore
attribute [local go_sem] min2_int min_two
set_option linter.unusedVariables false
set_option linter.unusedSimpArgs false
def hogsheadlaw0_OverBytes.l0 : Nat → List Int → Int → Option (Unit)
 | 0, _, _ => none
 | k + 1, x0, x2 => if x2 < (x0.length : Int) then (if 0 ≤ x2 then (hogsheadlaw0_OverBytes.l0 k (x0.set (x2 : Int).toNat 238) (wrap64 (x2 + 1))) else (none)) else (if x0.length < 140737488355328 then (some ()) else (none))
def hogsheadlaw0_OverBytes.f (k : Nat) (l0 : List Int) : Option (Unit) := hogsheadlaw0_OverBytes.l0 k l0 0
end Go.Proofs.YtdijnmcfpbceaaaGreatDoor.P

namespace Go.Proofs.YtdijnmcfpbceaaaGreatDoor.P
open Go.Proofs.YtdijnmcfpbceaaaGreatDoor.X
open Go.RowKit Go.Proofs.YtdijnmcfpbceaaaGreatDoorW.PrintWords Go.Proofs.YtdijnmcfpbceaaaGreatDoorW.PrintLast Go.Proofs.YtdijnmcfpbceaaaGreatDoorW.PrintMore
attribute [local go_sem] min2_int min_two
set_option linter.unusedVariables false
set_option linter.unusedSimpArgs false
def hogsheadlaw0_Low.f (a0 : Int) (a1 : Int) : Option (Int) := if (IntKind.u64.wrap (a1)) = 0 then (none) else (some (wrap64 (Int.tmod (IntKind.u64.wrap (a0)) (IntKind.u64.wrap (a1)))))
end Go.Proofs.YtdijnmcfpbceaaaGreatDoor.P

namespace Go.Proofs.YtdijnmcfpbceaaaGreatDoor.X
open Go.RowKit Go.Proofs.YtdijnmcfpbceaaaGreatDoorW.PrintWords Go.Proofs.YtdijnmcfpbceaaaGreatDoor.P
set_option linter.unusedVariables false
set_option linter.unusedSimpArgs false
theorem sameBytes_l0 (a b : List Int) (h : a.length = b.length) (hn : a.length ≤ 9223372036854775807) : ∀ (d i : Nat), a.length - i = d → i ≤ a.length →
    Ev (fun k => hogsheadlaw0_SameBytes.l0 k a b (i : Int)) (decide (a.drop i = b.drop i)) := by
  intro d
  induction d with
  | zero =>
    intro i hd hi
    refine ⟨1, fun k hk => ?_⟩
    obtain ⟨k, rfl⟩ : ∃ m, k = m + 1 := ⟨k - 1, by omega⟩
    simp only [hogsheadlaw0_SameBytes.l0]
    rw [if_neg (by omega), List.drop_eq_nil_of_le (by omega), List.drop_eq_nil_of_le (by omega)]
    rfl
  | succ d ih =>
    intro i hd hi
    have hlt : i < a.length := by omega
    have hlt2 : i < b.length := by omega
    have c1 : (i : Int) < (a.length : Int) := by omega
    have c2 : (i : Int) < (b.length : Int) := by omega
    obtain ⟨K, hK⟩ := ih (i + 1) (by omega) (by omega)
    refine ⟨K + 1, fun k hk => ?_⟩
    obtain ⟨k, rfl⟩ : ∃ m, k = m + 1 := ⟨k - 1, by omega⟩
    simp only [hogsheadlaw0_SameBytes.l0]
    rw [if_pos c1, if_pos (by omega), if_pos c2, rd_getElem a i hlt, rd_getElem b i hlt2, List.drop_eq_getElem_cons hlt, List.drop_eq_getElem_cons hlt2]
    by_cases e : a[i] = b[i]
    · rw [if_pos e, wrap_i i a.length hlt hn]
      have := hK k (by omega)
      simp only at this
      rw [this, e]
      congr 1
      rw [decide_eq_decide, List.cons.injEq]
      simp only [true_and]
    · rw [if_neg e]
      congr 1
      symm
      rw [decide_eq_false_iff_not, List.cons.injEq]
      exact fun x => e x.1
theorem sameBytes_eq (a b : List Int) (hn : a.length ≤ 9223372036854775807) : Ev (fun k => hogsheadlaw0_SameBytes.f k a b) (decide (a = b)) := by
  by_cases h : a.length = b.length
  · obtain ⟨K, hK⟩ := sameBytes_l0 a b h hn a.length 0 (by omega) (by omega)
    refine ⟨K, fun k hk => ?_⟩
    have := hK k hk
    show hogsheadlaw0_SameBytes.f k a b = _
    unfold hogsheadlaw0_SameBytes.f
    rw [if_pos (by omega)]
    exact this
  · refine ⟨0, fun k hk => ?_⟩
    show hogsheadlaw0_SameBytes.f k a b = _
    unfold hogsheadlaw0_SameBytes.f
    rw [if_neg (by omega), decide_eq_false (fun e => h (by rw [e]))]
end Go.Proofs.YtdijnmcfpbceaaaGreatDoor.X

namespace Go.Proofs.YtdijnmcfpbceaaaGreatDoor.X
open Go.RowKit Go.Proofs.YtdijnmcfpbceaaaGreatDoorW.PrintWords Go.Proofs.YtdijnmcfpbceaaaGreatDoor.P
set_option linter.unusedVariables false
set_option linter.unusedSimpArgs false
def padS (n : Nat) (s : ByteArray) : List Int := bytesOf s ++ List.replicate (n - s.size) 0
theorem padS_length {n : Nat} {s : ByteArray} (h : s.size ≤ n) : (padS n s).length = n := by
  rw [padS, List.length_append, bytesOf_length, List.length_replicate]; omega
theorem putB_pad (A : List Int) (m n p : Nat) (s : ByteArray) (hA : A.length = p) (h1 : s.size ≤ n) (h2 : n ≤ m) :
    putB (A ++ List.replicate m 0) p s = (A ++ padS n s) ++ List.replicate (m - n) 0 := by
  subst hA
  unfold putB padS
  have e1 : (A ++ List.replicate m (0 : Int)).take A.length = A := by rw [List.take_append_of_le_length (Nat.le_refl _), List.take_length]
  have e2 : (A ++ List.replicate m (0 : Int)).drop (A.length + s.size) = List.replicate (m - s.size) 0 := by
    rw [List.drop_append, List.drop_eq_nil_of_le (by omega), List.nil_append, List.drop_replicate]
    congr 1
    omega
  rw [e1, e2]
  have e3 : List.replicate (m - s.size) (0 : Int) = List.replicate (n - s.size) 0 ++ List.replicate (m - n) 0 := by
    rw [List.replicate_append_replicate]
    congr 1
    omega
  rw [e3]
  simp only [List.append_assoc]
theorem putB_mid (A B C : List Int) (p : Nat) (s : ByteArray) (hA : A.length = p) (hB : B.length = s.size) : putB (A ++ (B ++ C)) p s = A ++ (bytesOf s ++ C) := by
  subst hA
  unfold putB
  have e1 : (A ++ (B ++ C)).take A.length = A := by rw [List.take_append_of_le_length (Nat.le_refl _), List.take_length]
  have e2 : (A ++ (B ++ C)).drop (A.length + s.size) = C := by
    rw [← List.append_assoc, List.drop_append, List.drop_eq_nil_of_le (by rw [List.length_append]; omega), List.nil_append, List.length_append]
    have : A.length + s.size - (A.length + B.length) = 0 := by omega
    rw [this, List.drop_zero]
  rw [e1, e2, List.append_assoc]
def z7 : ByteArray := ⟨#[48, 48, 48, 48, 48, 48, 48]⟩
def z11 : ByteArray := ⟨#[48, 48, 48, 48, 48, 48, 48, 48, 48, 48, 48]⟩
def bl8 : ByteArray := ⟨#[32, 32, 32, 32, 32, 32, 32, 32]⟩
def us8 : ByteArray := ⟨#[117, 115, 116, 97, 114, 0, 48, 48]⟩
def canonA (name md dg : ByteArray) : List Int := padS 100 name ++ (padS 8 md ++ (padS 8 z7 ++ (padS 8 z7 ++ (padS 12 dg ++ padS 12 z11))))
def canonB (sg link : ByteArray) : List Int := padS 1 sg ++ (padS 100 link ++ (padS 8 us8 ++ List.replicate 247 0))
theorem canonA_length (name md dg : ByteArray) (h0 : name.size ≤ 100) (h1 : md.size ≤ 8) (h2 : dg.size ≤ 12) : (canonA name md dg).length = 148 := by
  unfold canonA
  simp only [List.length_append]
  rw [padS_length h0, padS_length h1, padS_length h2, padS_length (show z7.size ≤ 8 by decide), padS_length (show z11.size ≤ 12 by decide)]
theorem canonB_length (sg link : ByteArray) (h0 : sg.size ≤ 1) (h1 : link.size ≤ 100) : (canonB sg link).length = 356 := by
  unfold canonB
  simp only [List.length_append, List.length_replicate]
  rw [padS_length h0, padS_length h1, padS_length (show us8.size ≤ 8 by decide)]
theorem laid0_canon (name md dg sg link : ByteArray) (h0 : name.size ≤ 100) (h1 : md.size ≤ 8) (h2 : dg.size ≤ 12) (h3 : sg.size ≤ 1) (h4 : link.size ≤ 100) :
    laid0 name md dg sg link = canonA name md dg ++ (bytesOf bl8 ++ canonB sg link) := by
  have s7 : z7.size ≤ 8 := by decide
  have s11 : z11.size ≤ 12 := by decide
  have s8 : bl8.size ≤ 8 := by decide
  have su : us8.size ≤ 8 := by decide
  have l0 := padS_length h0
  have l1 := padS_length h1
  have l2 := padS_length h2
  have l3 := padS_length h3
  have l4 := padS_length h4
  have l7 := padS_length s7
  have l11 := padS_length s11
  have l8 := padS_length s8
  have lu := padS_length su
  unfold laid0
  rw [show (⟨#[48, 48, 48, 48, 48, 48, 48]⟩ : ByteArray) = z7 from rfl, show (⟨#[48, 48, 48, 48, 48, 48, 48, 48, 48, 48, 48]⟩ : ByteArray) = z11 from rfl, show (⟨#[32, 32, 32, 32, 32, 32, 32, 32]⟩ : ByteArray) = bl8 from rfl, show (⟨#[117, 115, 116, 97, 114, 0, 48, 48]⟩ : ByteArray) = us8 from rfl]
  have ez : zeros512 = [] ++ List.replicate 512 0 := rfl
  rw [ez, putB_pad [] 512 100 0 name rfl h0 (by omega)]
  rw [putB_pad _ _ 8 100 md (by rw [List.length_append, l0]; rfl) h1 (by omega)]
  rw [putB_pad _ _ 8 108 z7 (by simp only [List.length_append, l0, l1]; rfl) s7 (by omega)]
  rw [putB_pad _ _ 8 116 z7 (by simp only [List.length_append, l0, l1, l7]; rfl) s7 (by omega)]
  rw [putB_pad _ _ 12 124 dg (by simp only [List.length_append, l0, l1, l7]; rfl) h2 (by omega)]
  rw [putB_pad _ _ 12 136 z11 (by simp only [List.length_append, l0, l1, l7, l2]; rfl) s11 (by omega)]
  rw [putB_pad _ _ 8 148 bl8 (by simp only [List.length_append, l0, l1, l7, l2, l11]; rfl) s8 (by omega)]
  rw [putB_pad _ _ 1 156 sg (by simp only [List.length_append, l0, l1, l7, l2, l11, l8]; rfl) h3 (by omega)]
  rw [putB_pad _ _ 100 157 link (by simp only [List.length_append, l0, l1, l7, l2, l11, l8, l3]; rfl) h4 (by omega)]
  rw [putB_pad _ _ 8 257 us8 (by simp only [List.length_append, l0, l1, l7, l2, l11, l8, l3, l4]; rfl) su (by omega)]
  have e8 : padS 8 bl8 = bytesOf bl8 := by
    rw [padS, show 8 - bl8.size = 0 from rfl]; simp
  rw [e8]
  unfold canonA canonB
  simp only [List.append_assoc, List.nil_append]
theorem padS_Bytes (n : Nat) (s : ByteArray) : Bytes (padS n s) := (bytesOf_Bytes s).append (rep_Bytes _)
theorem canonA_Bytes (a b c : ByteArray) : Bytes (canonA a b c) := (padS_Bytes _ _).append <| (padS_Bytes _ _).append <| (padS_Bytes _ _).append <| (padS_Bytes _ _).append <| (padS_Bytes _ _).append (padS_Bytes _ _)
theorem canonB_Bytes (a b : ByteArray) : Bytes (canonB a b) := (padS_Bytes _ _).append <| (padS_Bytes _ _).append <| (padS_Bytes _ _).append (rep_Bytes _)
theorem Bytes.sum {xs : List Int} (h : Bytes xs) : 0 ≤ xs.sum ∧ xs.sum ≤ 255 * (xs.length : Int) := by
  induction xs with
  | nil => simp
  | cons x xs ih =>
    have h1 := h x List.mem_cons_self
    have h2 := ih (fun y hy => h y (List.mem_cons_of_mem _ hy))
    rw [List.sum_cons, List.length_cons]
    omega
theorem fold_sum : ∀ (xs : List Int) (s : Int), Bytes xs → 0 ≤ s → s + 255 * (xs.length : Int) ≤ 1000000000 → xs.foldl (fun s x => wrap64 (s + wrap64 x)) s = s + xs.sum := by
  intro xs
  induction xs with
  | nil => intro s _ _ _; simp
  | cons x xs ih =>
    intro s hb h0 h1
    have hx := hb x List.mem_cons_self
    rw [List.length_cons] at h1
    have e : wrap64 (s + wrap64 x) = s + x := by clear ih hb; unfold wrap64; omega
    rw [List.foldl_cons, e, ih (s + x) (fun y hy => hb y (List.mem_cons_of_mem _ hy)) (by clear ih hb e; omega) (by clear ih hb e; omega), List.sum_cons]
    clear ih hb e
    omega
theorem sumB_eq (xs : List Int) (hb : Bytes xs) (hn : xs.length ≤ 1000) : sumB xs = xs.sum := by
  have := fold_sum xs 0 hb (by omega) (by omega)
  rw [Int.zero_add] at this
  exact this
def ckOf (s : Int) : List Int := (octP 6 s.toNat).map (fun b => (b.toNat : Int)) ++ [0, 32]
theorem ckOf_length (s : Int) : (ckOf s).length = 8 := by rw [ckOf, List.length_append, List.length_map, octP_length]; rfl
def ckSum (a b : List Int) : Int := a.sum + 256 + b.sum
theorem ckSum_range (a b : List Int) (ha : Bytes a) (hb : Bytes b) (hl : a.length + b.length ≤ 600) : 0 ≤ ckSum a b ∧ ckSum a b < 262144 := by
  have := ha.sum
  have := hb.sum
  unfold ckSum
  omega
theorem layB_canon (a0 : ByteArray) (a1 : Int) (n : Nat) (a3 : ByteArray) (h0 : a0.size ≤ 100) (h3 : a3.size ≤ 100) :
    layB a0 a1 n a3 = canonA a0 (modeR a1) ⟨(octP 11 n).toArray⟩ ++ (ckOf (ckSum (canonA a0 (modeR a1) ⟨(octP 11 n).toArray⟩) (canonB ⟨#[signR a1]⟩ a3)) ++ canonB ⟨#[signR a1]⟩ a3) := by
  unfold layB laidR
  have s1 : (modeR a1).size ≤ 8 := by rw [modeR_size]; omega
  have s2 : (⟨(octP 11 n).toArray⟩ : ByteArray).size ≤ 12 := by rw [size_mk, octP_length]; omega
  have s3 : (⟨#[signR a1]⟩ : ByteArray).size ≤ 1 := Nat.le_refl 1
  rw [laid0_canon _ _ _ _ _ h0 s1 s2 s3 h3]
  have lA := canonA_length a0 (modeR a1) ⟨(octP 11 n).toArray⟩ h0 s1 s2
  have lB := canonB_length ⟨#[signR a1]⟩ a3 s3 h3
  have bA := canonA_Bytes a0 (modeR a1) ⟨(octP 11 n).toArray⟩
  have bB := canonB_Bytes ⟨#[signR a1]⟩ a3
  generalize canonA a0 (modeR a1) ⟨(octP 11 n).toArray⟩ = A at *
  generalize canonB ⟨#[signR a1]⟩ a3 = B at *
  have l8 : (bytesOf bl8).length = 8 := rfl
  have hs : sumB (A ++ (bytesOf bl8 ++ B)) = ckSum A B := by
    rw [sumB_eq _ (bA.append ((bytesOf_Bytes _).append bB)) (by simp only [List.length_append, lA, lB, l8]; omega), List.sum_append, List.sum_append]
    have : (bytesOf bl8).sum = 256 := by decide
    rw [this]
    unfold ckSum
    omega
  have hr := ckSum_range A B bA bB (by omega)
  rw [hs]
  have ho : (octR (ckSum A B) 6).1 = ⟨(octP 6 (ckSum A B).toNat).toArray⟩ := by
    unfold octR
    rw [if_pos ⟨hr.1, by omega, by omega, by have : (8 : Nat) ^ (6 : Int).toNat = 262144 := rfl; omega⟩]
    rfl
  rw [ho]
  have e : (⟨(octP 6 (ckSum A B).toNat).toArray⟩ : ByteArray) ++ (⟨#[0, 32]⟩ : ByteArray) = ⟨(octP 6 (ckSum A B).toNat ++ [0, 32]).toArray⟩ := append_mk _ [0, 32]
  rw [e, putB_mid A (bytesOf bl8) B 148 _ lA (by rw [size_mk, List.length_append, octP_length, l8]; rfl)]
  congr 2
theorem layB_length (a0 : ByteArray) (a1 : Int) (n : Nat) (a3 : ByteArray) (h0 : a0.size ≤ 100) (h3 : a3.size ≤ 100) : (layB a0 a1 n a3).length = 512 := by
  rw [layB_canon a0 a1 n a3 h0 h3, List.length_append, List.length_append, ckOf_length, canonA_length _ _ _ h0 (by rw [modeR_size]; omega) (by rw [size_mk, octP_length]; omega), canonB_length ⟨#[signR a1]⟩ a3 (Nat.le_refl 1) h3]
theorem ckOf_Bytes (s : Int) : Bytes (ckOf s) := by
  refine Bytes.append (fun x hx => ?_) (by intro x hx; simp at hx; omega)
  obtain ⟨c, _, rfl⟩ := List.mem_map.1 hx
  have := c.toNat_lt
  omega
theorem layB_Bytes (a0 : ByteArray) (a1 : Int) (n : Nat) (a3 : ByteArray) (h0 : a0.size ≤ 100) (h3 : a3.size ≤ 100) : Bytes (layB a0 a1 n a3) := by
  rw [layB_canon a0 a1 n a3 h0 h3]
  exact (canonA_Bytes _ _ _).append ((ckOf_Bytes _).append (canonB_Bytes _ _))
theorem layR_length (a0 : ByteArray) (a1 a2 : Int) (a3 : ByteArray) : (layR a0 a1 a2 a3).1.length ≤ 512 := by
  unfold layR
  split
  · rename_i h
    exact Nat.le_of_eq (layB_length _ _ _ _ h.1.2.1 h.1.2.2.2.1)
  · simp
end Go.Proofs.YtdijnmcfpbceaaaGreatDoor.X

namespace Go.Proofs.YtdijnmcfpbceaaaGreatDoor.X
set_option linter.unusedVariables false
set_option linter.unusedSimpArgs false
def cutL (c : UInt8) : List UInt8 → List (List UInt8)
  | [] => [[]]
  | b :: l => if b = c then [] :: cutL c l else
    match cutL c l with
    | [] => [[b]]
    | p :: r => (b :: p) :: r
theorem cutL_ne (c : UInt8) : ∀ l, cutL c l ≠ []
  | [] => by simp [cutL]
  | b :: l => by
    unfold cutL
    split
    · simp
    · split <;> simp
theorem cutL_none (c : UInt8) : ∀ l : List UInt8, c ∉ l → cutL c l = [l]
  | [], _ => rfl
  | b :: l, h => by
    have h1 : b ≠ c := fun e => h (by simp [e])
    have h2 := cutL_none c l (fun e => h (List.mem_cons_of_mem _ e))
    unfold cutL
    rw [if_neg h1, h2]
theorem cutL_app (c : UInt8) (r : List UInt8) : ∀ p : List UInt8, c ∉ p → cutL c (p ++ c :: r) = p :: cutL c r
  | [], _ => by
    show cutL c (c :: r) = _
    rw [cutL, if_pos rfl]
  | b :: p, h => by
    have h1 : b ≠ c := fun e => h (by simp [e])
    have h2 := cutL_app c r p (fun e => h (List.mem_cons_of_mem _ e))
    show cutL c (b :: (p ++ c :: r)) = _
    rw [cutL, if_neg h1, h2]
theorem mem_cutL (c : UInt8) : ∀ (l p : List UInt8), p ∈ cutL c l → c ∉ p
  | [], p, h => by
    rw [cutL, List.mem_singleton] at h
    subst h
    simp
  | b :: l, p, h => by
    unfold cutL at h
    split at h
    · rcases List.mem_cons.1 h with rfl | h
      · simp
      · exact mem_cutL c l p h
    · rename_i hb
      split at h
      · rw [List.mem_singleton] at h
        subst h
        simp [Ne.symm hb]
      · rename_i q r e
        rcases List.mem_cons.1 h with rfl | h
        · have := mem_cutL c l q (by rw [e]; exact List.mem_cons_self)
          simp [Ne.symm hb, this]
        · exact mem_cutL c l p (by rw [e]; exact List.mem_cons_of_mem _ h)
def joinL (c : UInt8) : List (List UInt8) → List UInt8
  | [] => []
  | [p] => p
  | p :: q :: r => p ++ c :: joinL c (q :: r)
theorem joinL_cutL (c : UInt8) : ∀ l, joinL c (cutL c l) = l
  | [] => rfl
  | b :: l => by
    have ih := joinL_cutL c l
    unfold cutL
    split
    · rename_i hb
      subst hb
      cases h : cutL b l with
      | nil => exact absurd h (cutL_ne b l)
      | cons q r =>
        rw [h] at ih
        show [] ++ b :: joinL b (q :: r) = _
        rw [ih]
        rfl
    · cases h : cutL c l with
      | nil => exact absurd h (cutL_ne c l)
      | cons q r =>
        rw [h] at ih
        cases r with
        | nil => simpa [joinL] using ih
        | cons r1 r =>
          show (b :: q) ++ c :: joinL c (r1 :: r) = _
          rw [List.cons_append, show q ++ c :: joinL c (r1 :: r) = l from ih]
theorem cutL_joinL (c : UInt8) : ∀ (ps : List (List UInt8)), ps ≠ [] → (∀ p ∈ ps, c ∉ p) → cutL c (joinL c ps) = ps
  | [], h, _ => absurd rfl h
  | [p], _, h => by
    show cutL c p = [p]
    exact cutL_none c p (h p (by simp))
  | p :: q :: r, _, h => by
    show cutL c (p ++ c :: joinL c (q :: r)) = _
    rw [cutL_app c _ p (h p (by simp)), cutL_joinL c (q :: r) (by simp) (fun x hx => h x (List.mem_cons_of_mem _ hx))]
theorem joinL_append (c : UInt8) (q : List UInt8) : ∀ ps : List (List UInt8), ps ≠ [] → joinL c (ps ++ [q]) = joinL c ps ++ c :: q
  | [], h => absurd rfl h
  | [p], _ => rfl
  | p :: p2 :: r, _ => by
    have ih := joinL_append c q (p2 :: r) (by simp)
    show p ++ c :: joinL c (p2 :: r ++ [q]) = _
    rw [ih]
    simp [joinL]
theorem splitK_cutL (c : UInt8) : ∀ (k : Nat) (s : List UInt8), s.count c = k → Lib.splitK [c] 0 k s = cutL c s
  | 0, s, h => by
    rw [cutL_none c s (fun hm => by have := List.count_pos_iff.2 hm; omega)]
    rfl
  | k + 1, s, h => by
    have hm : c ∈ s := List.count_pos_iff.1 (by omega)
    have hi : ∃ i : Nat, Lib.indexByte s c = i := by
      by_cases h1 : Lib.indexByte s c = -1
      · obtain ⟨j, hj, e⟩ := List.mem_iff_getElem.1 hm
        exact absurd (by rw [List.getElem?_eq_getElem hj, e]) (Lib.indexByte_none h1 j)
      · have hg : -1 ≤ Lib.indexByte s c := by rw [← Lib.index_one]; exact Lib.index_ge s [c]
        exact ⟨(Lib.indexByte s c).toNat, by omega⟩
    obtain ⟨i, hi⟩ := hi
    obtain ⟨h1, h2⟩ := Lib.indexByte_some hi
    obtain ⟨hl, he⟩ := List.getElem?_eq_some_iff.1 h1
    unfold Lib.splitK
    rw [Lib.index_one, hi, if_neg (by simp)]
    have e1 : s = s.take i ++ c :: s.drop (i + 1) := by
      conv => lhs; rw [← List.take_append_drop i s]
      rw [List.drop_eq_getElem_cons hl, he]
    have h3 : c ∉ s.take i := by
      intro hx
      obtain ⟨j, hj, e⟩ := List.mem_iff_getElem.1 hx
      rw [List.length_take] at hj
      refine h2 j (by omega) ?_
      rw [List.getElem_take] at e
      rw [List.getElem?_eq_getElem (by omega), e]
    have e2 : cutL c s = s.take i :: cutL c (s.drop (i + 1)) := by
      conv => lhs; rw [e1]
      exact cutL_app c _ _ h3
    have h4 : (s.drop (i + 1)).count c = k := by
      have : s.count c = (s.take i ++ c :: s.drop (i + 1)).count c := by rw [← e1]
      rw [List.count_append, List.count_cons_self, List.count_eq_zero.2 h3] at this
      omega
    rw [e2]
    have e3 : ((i : Nat) : Int).toNat = i := Int.toNat_natCast i
    simp only [e3, Nat.add_zero, List.length_singleton]
    rw [splitK_cutL c k _ h4]
def partB (s : List UInt8) : Bool := decide (s ≠ []) && decide (s.length ≤ 60) && decide ((47 : UInt8) ∉ s) && decide ((0 : UInt8) ∉ s) && decide (s ≠ [46]) && decide (s ≠ [46, 46]) && !([46, 119, 104, 46] : List UInt8).isPrefixOf s
def pathB (s : List UInt8) : Bool := decide (s = []) || (decide (s.length ≤ 200) && (cutL 47 s).all partB && decide ((cutL 47 s).length ≤ 10))
def upB (s : List UInt8) : List UInt8 := joinL 47 (cutL 47 s).dropLast
theorem joinL_length (c : UInt8) : ∀ ps qs : List (List UInt8), (joinL c ps).length ≤ (joinL c (ps ++ qs)).length
  | [], _ => by simp [joinL]
  | [p], [] => Nat.le_refl _
  | [p], q :: qs => by simp [joinL]
  | p :: p2 :: r, qs => by
    have ih := joinL_length c (p2 :: r) qs
    show (p ++ c :: joinL c (p2 :: r)).length ≤ (p ++ c :: joinL c (p2 :: r ++ qs)).length
    simp only [List.length_append, List.length_cons] at ih ⊢
    omega
theorem up_path {s : List UInt8} (h : pathB s = true) : pathB (upB s) = true := by
  unfold upB
  cases hd : (cutL 47 s).dropLast with
  | nil => rfl
  | cons q r =>
    have hp : ∀ p ∈ q :: r, p ∈ cutL 47 s := fun p hx => by
      rw [← hd] at hx
      exact List.dropLast_subset _ hx
    have e := cutL_joinL 47 (q :: r) (by simp) (fun p hx => mem_cutL 47 s p (hp p hx))
    by_cases hs : s = []
    · subst hs
      simp [cutL] at hd
    · unfold pathB at h ⊢
      rw [decide_eq_false hs, Bool.false_or, Bool.and_eq_true, Bool.and_eq_true, decide_eq_true_eq, decide_eq_true_eq] at h
      obtain ⟨⟨h1, h2⟩, h3⟩ := h
      rw [e]
      rw [Bool.or_eq_true, Bool.and_eq_true, Bool.and_eq_true, decide_eq_true_eq, decide_eq_true_eq, decide_eq_true_eq]
      refine .inr ⟨⟨?_, ?_⟩, ?_⟩
      · have hl := joinL_length 47 (cutL 47 s).dropLast [(cutL 47 s).getLast (cutL_ne 47 s)]
        rw [List.dropLast_concat_getLast, joinL_cutL, hd] at hl
        omega
      · rw [List.all_eq_true] at h2 ⊢
        exact fun p hx => h2 p (hp p hx)
      · have := List.length_dropLast (xs := cutL 47 s)
        rw [hd] at this
        omega
theorem up_take {s : List UInt8} {i : Nat} (hi : s[i]? = some 47) (hl : ∀ j, i < j → s[j]? ≠ some 47) : upB s = s.take i := by
  obtain ⟨hlt, he⟩ := List.getElem?_eq_some_iff.1 hi
  have e1 : s = s.take i ++ (47 : UInt8) :: s.drop (i + 1) := by
    conv => lhs; rw [← List.take_append_drop i s]
    rw [List.drop_eq_getElem_cons hlt, he]
  have h2 : (47 : UInt8) ∉ s.drop (i + 1) := by
    intro hx
    obtain ⟨j, hj, e⟩ := List.mem_iff_getElem.1 hx
    rw [List.length_drop] at hj
    rw [List.getElem_drop] at e
    exact hl (i + 1 + j) (by omega) (by rw [List.getElem?_eq_getElem (by omega), e])
  have e2 : cutL 47 s = cutL 47 (s.take i) ++ [s.drop (i + 1)] := by
    have e3 := cutL_joinL 47 (cutL 47 (s.take i) ++ [s.drop (i + 1)]) (by simp) (fun p hp => by
      rcases List.mem_append.1 hp with h | h
      · exact mem_cutL 47 _ p h
      · rw [List.mem_singleton] at h
        rw [h]
        exact h2)
    rw [joinL_append 47 _ _ (cutL_ne 47 _), joinL_cutL, ← e1] at e3
    exact e3
  unfold upB
  rw [e2, List.dropLast_concat, joinL_cutL]
theorem up_none {s : List UInt8} (h : (47 : UInt8) ∉ s) : upB s = [] := by
  unfold upB
  rw [cutL_none 47 s h]
  rfl
end Go.Proofs.YtdijnmcfpbceaaaGreatDoor.X

namespace Go.Proofs.YtdijnmcfpbceaaaGreatDoor.X
open Go.RowKit Go.Proofs.YtdijnmcfpbceaaaGreatDoorW.PrintWords Go.Proofs.YtdijnmcfpbceaaaGreatDoorW.PrintLast Go.Proofs.YtdijnmcfpbceaaaGreatDoorW.PrintMore Go.Proofs.YtdijnmcfpbceaaaGreatDoor.P
set_option linter.unusedVariables false
set_option linter.unusedSimpArgs false
theorem blt_irrefl : ∀ a : List UInt8, Op.bytesLess a a = false
  | [] => rfl
  | x :: a => by rw [Op.bytesLess]; simp [blt_irrefl a]
theorem blt_trans : ∀ a b c : List UInt8, Op.bytesLess a b = true → Op.bytesLess b c = true → Op.bytesLess a c = true
  | _, [], _, h, _ => by cases a : ‹List UInt8› <;> simp [Op.bytesLess] at h
  | _, _ :: _, [], _, h => by simp [Op.bytesLess] at h
  | [], _ :: _, _ :: _, _, _ => rfl
  | x :: a, y :: b, z :: c, h, k => by
    rw [Op.bytesLess] at h k ⊢
    simp only [Bool.or_eq_true, Bool.and_eq_true, decide_eq_true_eq, beq_iff_eq] at h k ⊢
    rcases h with h | ⟨h1, h2⟩
    · rcases k with k | ⟨k1, k2⟩
      · exact .inl (UInt8.lt_trans h k)
      · exact .inl (k1 ▸ h)
    · rcases k with k | ⟨k1, k2⟩
      · exact .inl (h1 ▸ k)
      · exact .inr ⟨h1.trans k1, blt_trans a b c h2 k2⟩
theorem blt_total : ∀ a b : List UInt8, Op.bytesLess a b = false → Op.bytesLess b a = false → a = b
  | [], [], _, _ => rfl
  | [], _ :: _, h, _ => by simp [Op.bytesLess] at h
  | _ :: _, [], _, h => by simp [Op.bytesLess] at h
  | x :: a, y :: b, h, k => by
    rw [Op.bytesLess] at h k
    simp only [Bool.or_eq_false_iff, Bool.and_eq_false_iff, decide_eq_false_iff_not, beq_eq_false_iff_ne] at h k
    have hxy : x = y := by
      rcases UInt8.lt_or_lt_of_ne (a := x) (b := y) with h1
      exact Classical.byContradiction fun e => (h1 e).elim h.1 k.1
    subst hxy
    rw [blt_total a b (h.2.resolve_left (fun e => e rfl)) (k.2.resolve_left (fun e => e rfl))]
def ltB (a b : ByteArray) : Bool := Op.bytesLess a.toList b.toList
theorem ltB_irrefl (a : ByteArray) : ltB a a = false := blt_irrefl _
theorem ltB_trans {a b c : ByteArray} (h : ltB a b = true) (k : ltB b c = true) : ltB a c = true := blt_trans _ _ _ h k
def goodN (n : S47) : Bool :=
  pathB n.f0.data.toList && decide (n.f2.size ≤ 400) &&
  (if n.f1 = 1 then decide (n.f2.size = 0) else if n.f1 = 2 ∨ n.f1 = 3 then true else if n.f1 = 4 then decide (n.f2.size ≠ 0) && decide ((0 : UInt8) ∉ n.f2.data.toList) else false)
def dirAt (t : List S47) (p : ByteArray) : Bool := t.any fun x => decide (x.f0 = p) && decide (x.f1 = 1)
def upS (p : ByteArray) : ByteArray := ⟨(upB p.data.toList).toArray⟩
def followsN (ahead : List S47) (n : S47) : Bool :=
  match ahead.getLast? with
  | none => decide (n.f0.size = 0)
  | some l => decide (n.f0.size ≠ 0) && pathB n.f0.data.toList && ltB l.f0 n.f0 && dirAt ahead (upS n.f0)
def treeR : List S47 → List S47 → Bool
  | _, [] => true
  | ahead, n :: r => decide (ahead.length < 400) && goodN n && followsN ahead n && treeR (ahead ++ [n]) r
def treeB (t : List S47) : Bool := decide (t ≠ []) && treeR [] t
theorem treeR_step (t : List S47) (i : Nat) (h : i < t.length) : treeR (t.take i) (t.drop i) = (decide (i < 400) && goodN t[i] && followsN (t.take i) t[i] && treeR (t.take (i + 1)) (t.drop (i + 1))) := by
  rw [List.drop_eq_getElem_cons h, treeR, List.length_take, Nat.min_eq_left (by omega), List.take_succ_eq_append_getElem h]
def risN (t : List S47) : Prop := t.Pairwise fun x y => ltB x.f0 y.f0 = true
end Go.Proofs.YtdijnmcfpbceaaaGreatDoor.X

namespace Go.Proofs.YtdijnmcfpbceaaaGreatDoor.X
open Go.RowKit Go.Proofs.YtdijnmcfpbceaaaGreatDoorW.PrintWords Go.Proofs.YtdijnmcfpbceaaaGreatDoorW.PrintLast Go.Proofs.YtdijnmcfpbceaaaGreatDoorW.PrintMore
set_option linter.unusedVariables false
set_option linter.unusedSimpArgs false
theorem toList_extA {a b : ByteArray} (h : a.data.toList = b.data.toList) : a = b := by
  cases a
  cases b
  congr 1
  exact Array.toList_inj.1 h
theorem addG (g i : Nat) : (⟨g, 0, none⟩ : Addr).add i = ⟨g, i, none⟩ := by
  simp only [Addr.add, Nat.zero_add]; split <;> first | rfl | (rename_i h_; rw [h_])
theorem newsG {w : World} {g t : Nat} {cs : List Value} (h : w.heap[g]? = some (.cells cs.toArray t (0, 0))) : ∀ ad, some (⟨g, 0, none⟩ : Addr) = some ad → ∀ j u, cs[j]? = some u → w.cell? (ad.add j) = some u := by
  intro ad ha j u hu
  cases ha
  have e4 : (⟨g, 0, none⟩ : Addr).add j = ⟨g, j, none⟩ := by
    simp only [Addr.add, Nat.zero_add]; split <;> first | rfl | (rename_i h_; rw [h_])
  rw [e4, blk_cell h j]
  simpa using hu
theorem belowG {w0 w w1 : World} {r : Option Nat} (h : Below w0.heap.size w0 w) (hg : w.grownBy w1 r) (hc : ∀ k, r = some k → w0.heap.size ≤ k) : Below w0.heap.size w0 w1 :=
  ⟨hg.os.trans h.os, hg.tape.trans h.tape, hg.output.trans h.output, Nat.le_trans h.size hg.size, fun k hk => (hg.block k (Nat.lt_of_lt_of_le hk h.size) (fun e => by have := hc k e.symm; omega)).trans (h.block k hk)⟩
theorem ownG {w w1 : World} {base e size n : Nat} {v : Value} {xs : List Value} (h : w.ownsRow base e size v n xs) (hb : Below w.heap.size w w1) : w1.ownsRow base e size v n xs :=
  own_move h (fun k hk => hb.block k (own_lt h k hk))
theorem strsG {w : World} {g t : Nat} (l : List ByteArray) (h : w.heap[g]? = some (.cells (l.map Value.string).toArray t (0, 0))) (hn : l.length ≤ 9223372036854775807) : Kd.string.C w (some ⟨g, 0, none⟩) l.length l := by
  refine ⟨rfl, hn, fun _ => ⟨_, rfl, fun j p hj => ⟨[.string p], rfl, rfl, fun i u hu => ?_⟩⟩⟩
  cases i with
  | succ i => simp at hu
  | zero =>
    refine newsG h _ rfl (j * 1 + 0) u ?_
    rw [Nat.mul_one, Nat.add_zero, List.getElem?_map, hj]
    simpa using hu
structure StepG (w w' : World) (sb : Nat) (r : Option Nat) : Prop where
  os : w'.os = w.os
  tape : w'.tape = w.tape
  output : w'.output = w.output
  size : w.heap.size ≤ w'.heap.size
  block : ∀ k, k < w.heap.size → k ≠ sb → some k ≠ r → w'.heap[k]? = w.heap[k]?
theorem StepG.of_below {w w' : World} {sb : Nat} {r : Option Nat} (h : Below w.heap.size w w') : StepG w w' sb r := ⟨h.os, h.tape, h.output, h.size, fun k hk _ _ => h.block k hk⟩
theorem StepG.trans {w w1 w2 : World} {sb : Nat} {r r' : Option Nat} (h : StepG w w1 sb r) (g : StepG w1 w2 sb r') (hr : r' = r ∨ ∀ k, r' = some k → w.heap.size ≤ k) : StepG w w2 sb r :=
  ⟨g.os.trans h.os, g.tape.trans h.tape, g.output.trans h.output, Nat.le_trans h.size g.size, fun k hk hs hne => (g.block k (Nat.lt_of_lt_of_le hk h.size) hs (by
    rcases hr with rfl | hr
    · exact hne
    · intro e
      have := hr k e.symm
      omega)).trans (h.block k hk hs hne)⟩
theorem sizeG (w : World) (a : Addr) (v : Value) : (w.setCell a v).heap.size = w.heap.size := by unfold World.setCell; split <;> simp
theorem StepG.set {w w1 : World} {sb : Nat} {r : Option Nat} (h : StepG w w1 sb r) (o : Nat) (v : Value) : StepG w (w1.setCell ⟨sb, o, none⟩ v) sb r :=
  ⟨h.os, h.tape, h.output, by rw [sizeG]; exact h.size, fun k hk hs hne => (Below.heap_setCell w1 ⟨sb, o, none⟩ v k hs).trans (h.block k hk hs hne)⟩
theorem belowStepG {w w1 w2 : World} {sb : Nat} {r : Option Nat} (h : Below w.heap.size w w1) (g : StepG w1 w2 sb r) (hs : w.heap.size ≤ sb) (hr : ∀ k, r = some k → w.heap.size ≤ k) : Below w.heap.size w w2 :=
  ⟨g.os.trans h.os, g.tape.trans h.tape, g.output.trans h.output, Nat.le_trans h.size g.size, fun k hk => (g.block k (Nat.lt_of_lt_of_le hk h.size) (by omega) (fun e => by have := hr k e.symm; omega)).trans (h.block k hk)⟩
def bmG (n k : Nat) : Array Bool := ((List.range n).map fun i => Nat.testBit k i).toArray
end Go.Proofs.YtdijnmcfpbceaaaGreatDoor.X

namespace Go.Proofs.YtdijnmcfpbceaaaGreatDoor.X
open Go.RowKit Go.Proofs.YtdijnmcfpbceaaaGreatDoorW.PrintWords
set_option linter.unusedVariables false
set_option linter.unusedSimpArgs false
theorem spot_none {w : World} {ad : Addr} {v : Value} (h : w.cell? ad = some v) : ad = ⟨ad.block, ad.off, none⟩ ∧ ad.block < w.heap.size := by
  unfold World.cell? at h
  split at h
  · rename_i c t f hc
    split at h
    · cases h
    · rename_i hs
      obtain ⟨b, o, s⟩ := ad
      cases s with
      | none => exact ⟨rfl, by
          rcases Nat.lt_or_ge b w.heap.size with h' | h'
          · exact h'
          · simp [Array.getElem?_eq_none h'] at hc⟩
      | some s => exact absurd rfl hs
  · cases h
def strconv_Itoa.f (a0 : Int) : Option ByteArray := if -9223372036854775808 ≤ a0 ∧ a0 ≤ 9223372036854775807 then some ⟨(Lib.itoa a0).toArray⟩ else none
theorem strconv_Itoa.calls (a0 : Int) (r : ByteArray) (w : World) (hT : Aside0 (Tabs w)) (h : strconv_Itoa.f a0 = some r) :
    Calls Tryz.prog 35 #[.int .i64 a0] w fun e w' => e = .returned (.string r) ∧ Below w.heap.size w w' := by
  unfold strconv_Itoa.f at h
  split at h
  · rename_i hc
    cases h
    exact (Tryz.strconv_Itoa a0 hc.1 hc.2 w hT.out.pow).mono fun e w' ⟨he, k, os, hw⟩ => ⟨he, by rw [hw]; exact Lib.below_grow _ w (Nat.le_refl _) k os⟩
  · cases h
end Go.Proofs.YtdijnmcfpbceaaaGreatDoor.X

namespace Go.Proofs.YtdijnmcfpbceaaaGreatDoor.X
set_option linter.unusedVariables false
set_option linter.unusedSimpArgs false
def lenD (n : Nat) : Nat := (Lib.decDigits n).length
theorem lenD_lt (n : Nat) (h : n < 10) : lenD n = 1 := by
  unfold lenD
  rw [Lib.decDigits, dif_pos h]
  rfl
theorem lenD_ge (n : Nat) (h : 10 ≤ n) : lenD n = lenD (n / 10) + 1 := by
  unfold lenD
  conv => lhs; rw [Lib.decDigits, dif_neg (by omega)]
  simp
theorem lenD_pos (n : Nat) : 1 ≤ lenD n := by
  rcases Nat.lt_or_ge n 10 with h | h
  · rw [lenD_lt n h]; omega
  · rw [lenD_ge n h]; omega
theorem lenD_mono : ∀ (b a : Nat), a ≤ b → lenD a ≤ lenD b := by
  intro b
  induction b using Nat.strongRecOn with
  | ind b ih =>
    intro a hab
    rcases Nat.lt_or_ge b 10 with h | h
    · rw [lenD_lt b h, lenD_lt a (by omega)]
      omega
    · rcases Nat.lt_or_ge a 10 with h2 | h2
      · rw [lenD_lt a h2]
        exact lenD_pos b
      · rw [lenD_ge b h, lenD_ge a h2]
        have := ih (b / 10) (by omega) (a / 10) (by omega)
        omega
theorem lenD_le (k : Nat) : ∀ n : Nat, n < 10 ^ (k + 1) → lenD n ≤ k + 1 := by
  induction k with
  | zero =>
    intro n h
    rw [lenD_lt n (by omega)]
    omega
  | succ k ih =>
    intro n h
    rcases Nat.lt_or_ge n 10 with h1 | h1
    · rw [lenD_lt n h1]
      omega
    · rw [lenD_ge n h1]
      have := ih (n / 10) (by
        rw [Nat.pow_succ] at h
        omega)
      omega
def IsRec (L m : Nat) : Prop := m = L + lenD m ∧ ∀ n, L ≤ n → n < m → n < L + lenD n
def recS (L : Nat) : Nat → Nat → Nat
  | 0, n => n
  | f + 1, n => if n = L + lenD n then n else recS L f (n + 1)
def recM (L : Nat) : Nat := recS L 8 (L + 1)
theorem recS_spec (L : Nat) (hL : L ≤ 900000) : ∀ (f n : Nat), n + f = L + 9 → L < n → (∀ j, L ≤ j → j < n → j < L + lenD j) → IsRec L (recS L f n)
  | 0, n, hf, hn, h => by
    have h1 := h (n - 1) (by omega) (by omega)
    have h2 := lenD_le 5 (n - 1) (by
      have : (10 : Nat) ^ (5 + 1) = 1000000 := by decide
      omega)
    omega
  | f + 1, n, hf, hn, h => by
    unfold recS
    split
    · rename_i e
      exact ⟨e, h⟩
    · rename_i e
      refine recS_spec L hL f (n + 1) (by omega) (by omega) (fun j h1 h2 => ?_)
      rcases Nat.lt_or_ge j n with h3 | h3
      · exact h j h1 h3
      · obtain rfl : j = n := by omega
        have h4 := h (j - 1) (by omega) (by omega)
        have h5 := lenD_mono j (j - 1) (by omega)
        omega
theorem recM_spec (L : Nat) (hL : L ≤ 900000) : IsRec L (recM L) := by
  refine recS_spec L hL 8 (L + 1) (by omega) (by omega) (fun j h1 h2 => ?_)
  obtain rfl : j = L := by omega
  have := lenD_pos j
  omega
theorem recM_gt (L : Nat) (hL : L ≤ 900000) : L < recM L ∧ recM L ≤ L + 7 := by
  obtain ⟨h1, h2⟩ := recM_spec L hL
  have h3 := lenD_pos (recM L)
  refine ⟨by omega, ?_⟩
  have h8 : ∀ (f n : Nat), recS L f n ≤ n + f := by
    intro f
    induction f with
    | zero => intro n; exact Nat.le_refl _
    | succ f ih =>
      intro n
      unfold recS
      split
      · omega
      · have := ih (n + 1)
        omega
  have h9 : recM L ≤ L + 1 + 8 := h8 8 (L + 1)
  have h5 := lenD_le 5 (recM L) (by
    have : (10 : Nat) ^ (5 + 1) = 1000000 := by decide
    omega)
  omega
theorem rec_step {L m n : Nat} (h : IsRec L m) (h1 : L ≤ n) (h2 : n ≤ m) : (L + lenD n = n ∧ n = m) ∨ (L + lenD n ≠ n ∧ n < L + lenD n ∧ L + lenD n ≤ m) := by
  rcases Nat.lt_or_ge n m with h3 | h3
  · have h4 := h.2 n h1 h3
    have h5 := lenD_mono m n h2
    have h6 := h.1
    exact .inr ⟨by omega, h4, by omega⟩
  · obtain rfl : n = m := by omega
    have h6 := h.1
    exact .inl ⟨by omega, rfl⟩
def recB (key value : List UInt8) : List UInt8 :=
  Lib.decDigits (recM (key.length + value.length + 3)) ++ (32 :: key ++ 61 :: value ++ [10])
theorem recB_length (key value : List UInt8) (h : key.length + value.length ≤ 800000) : (recB key value).length = recM (key.length + value.length + 3) := by
  have h1 := (recM_spec (key.length + value.length + 3) (by omega)).1
  unfold recB
  simp only [List.length_append, List.length_cons, List.length_nil]
  unfold lenD at h1
  omega
def numL (l : List UInt8) (n : Nat) : Nat := l.foldl (fun n c => n * 10 + (c.toNat - 48)) n
theorem numL_dec (u : Nat) : numL (Lib.decDigits u) 0 = u := by
  induction u using Nat.strongRecOn with
  | ind u ih =>
    rw [Lib.decDigits]
    split
    · rename_i h
      show 0 * 10 + ((UInt8.ofNat (48 + u)).toNat - 48) = u
      rw [UInt8.toNat_ofNat_of_lt' (by show _ < 256; omega)]
      omega
    · rename_i h
      have h1 := ih (u / 10) (by omega)
      unfold numL at h1 ⊢
      rw [List.foldl_append, h1]
      show u / 10 * 10 + ((UInt8.ofNat (48 + u % 10)).toNat - 48) = u
      rw [UInt8.toNat_ofNat_of_lt' (by show _ < 256; omega)]
      omega
theorem dec_digit (u : Nat) : ∀ c ∈ Lib.decDigits u, 48 ≤ c.toNat ∧ c.toNat ≤ 57 := by
  induction u using Nat.strongRecOn with
  | ind u ih =>
    intro c hc
    rw [Lib.decDigits] at hc
    split at hc
    · rename_i h
      rw [List.mem_singleton] at hc
      subst hc
      rw [UInt8.toNat_ofNat_of_lt' (by show _ < 256; omega)]
      omega
    · rename_i h
      rcases List.mem_append.1 hc with h1 | h1
      · exact ih (u / 10) (by omega) c h1
      · rw [List.mem_singleton] at h1
        subst h1
        rw [UInt8.toNat_ofNat_of_lt' (by show _ < 256; omega)]
        omega
end Go.Proofs.YtdijnmcfpbceaaaGreatDoor.X

namespace Go.Proofs.YtdijnmcfpbceaaaGreatDoor.X
open Go.RowKit Go.Proofs.YtdijnmcfpbceaaaGreatDoorW.PrintWords Go.Proofs.YtdijnmcfpbceaaaGreatDoorW.PrintLast Go.Proofs.YtdijnmcfpbceaaaGreatDoorW.PrintMore
set_option linter.unusedVariables false
set_option linter.unusedSimpArgs false
def recT (key value : ByteArray) : ByteArray := ⟨(recB key.data.toList value.data.toList).toArray⟩
def decT (n : Nat) : ByteArray := ⟨(Lib.decDigits n).toArray⟩
theorem decT_size (n : Nat) : (decT n).size = lenD n := by simp [decT, lenD, ByteArray.size]
theorem itoa_nat (n : Nat) (h : n ≤ 9223372036854775807) : strconv_Itoa.f (n : Int) = some (decT n) := by
  unfold strconv_Itoa.f decT
  rw [if_pos (by omega), Lib.itoa_nonneg]
def restT (key value : ByteArray) : ByteArray := (((⟨#[32]⟩ ++ key) ++ ⟨#[61]⟩) ++ value) ++ ⟨#[10]⟩
theorem restT_size (key value : ByteArray) : (restT key value).size = key.size + value.size + 3 := by
  simp only [restT, ByteArray.size_append]
  show 1 + key.size + 1 + value.size + 1 = _
  omega
theorem recT_eq (key value : ByteArray) : recT key value = decT (recM (key.size + value.size + 3)) ++ restT key value := by
  apply toList_extA
  unfold recT recB decT restT
  rw [data_length, data_length]
  simp [ByteArray.toList_data_append]
set_option maxHeartbeats 4000000 in
theorem record_calls (key value : ByteArray) (w : World) (hT : Aside0 (Tabs w)) (hs : key.size + value.size ≤ 800000) :
    Calls Tryz.prog 14 #[.string key, .string value] w fun e w' => e = .returned (.string (recT key value)) ∧ Below w.heap.size w w' := by
  have HE := Aside0.mk (recT_eq key value)
  have HRs := Aside0.mk (restT_size key value)
  go_enter Tryz.func14, Tryz.ntmps14
  go_wp2_with fail
  have HI := Aside0.mk (recM_spec (key.size + value.size + 3) (by omega))
  have hM7 := (recM_gt (key.size + value.size + 3) (by omega)).2
  have hMg := (recM_gt (key.size + value.size + 3) (by omega)).1
  have hst : (1 + (key.size : Int) + 1 + (value.size : Int) + 1) = ((key.size + value.size + 3 : Nat) : Int) := by omega
  have HRT : Aside0 (({ data := #[32] } ++ key ++ { data := #[61] } ++ value ++ { data := #[10] } : ByteArray) = restT key value) := ⟨rfl⟩
  rw [HRT.out, hst]
  clear HRT hst
  have hrt := HRs.out
  generalize restT key value = rt at *
  have hL : key.size + value.size + 3 ≤ 800003 := by omega
  generalize key.size + value.size + 3 = L at *
  generalize recM L = M at *
  clear HRs
  go_loopw [6] (fun v6 wr => ∃ n : Nat, v6 = .int .i64 n ∧ L ≤ n ∧ n ≤ M ∧ Aside0 (Below w.heap.size w wr)) (fun a _ => M - (intOf a).toNat)
  case atStart => exact ⟨L, rfl, by omega, by omega, ⟨Below.refl _ _⟩⟩
  case round =>
    obtain ⟨n, rfl, hn1, hn2, HB⟩ := hrel
    have HIt := Aside0.mk (itoa_nat n (by omega))
    have hds : (decT n).size = lenD n := decT_size n
    have hd7 : lenD n ≤ 6 := lenD_le 5 n (by
      have : (10 : Nat) ^ (5 + 1) = 1000000 := by decide
      omega)
    have hstep := rec_step HI.out hn1 hn2
    generalize lenD n = ln at *
    have HDn := Aside0.mk (rfl : decT n = decT n)
    go_wp2_with fail
    refine (strconv_Itoa.calls (n : Int) (decT n) wr ⟨Tabs.below hT.out HB.out⟩ HIt.out).mono ?_
    rintro e w1 ⟨rfl, hb1⟩
    have HB1 := Aside0.mk (below_step HB.out hb1)
    clear hb1 HB
    rcases hstep with ⟨e1, e2⟩ | ⟨e1, e2, e3⟩
    · subst e2
      have hne : (((decT n).size : Int) + (rt.size : Int) != (n : Int)) = false := by
        rw [bne_eq_false_iff_eq]
        omega
      go_wp2_with fail
      refine (strconv_Itoa.calls (n : Int) (decT n) w1 ⟨Tabs.below hT.out HB1.out⟩ HIt.out).mono ?_
      rintro e w2 ⟨rfl, hb2⟩
      have HB2 := Aside0.mk (below_step HB1.out hb2)
      clear hb2 HB1 hne
      have hroom : (decT n).size + rt.size ≤ 9223372036854775807 := by omega
      go_wp2_with fail
      go_ret
      rw [HE.out]
      exact ⟨rfl, HB2.out⟩
    · have hne : (((decT n).size : Int) + (rt.size : Int) != (n : Int)) = true := by
        rw [bne_iff_ne]
        omega
      go_wp2_with fail
      refine (strconv_Itoa.calls (n : Int) (decT n) w1 ⟨Tabs.below hT.out HB1.out⟩ HIt.out).mono ?_
      rintro e w2 ⟨rfl, hb2⟩
      have HB2 := Aside0.mk (below_step HB1.out hb2)
      clear hb2 HB1 hne
      go_wp2_with fail
      exact ⟨⟨L + ln, by congr 1; omega, by omega, by omega, HB2⟩, by simp only [intOf]; omega⟩
def tar_Record.f (a0 a1 : ByteArray) : Option ByteArray := if a0.size + a1.size ≤ 800000 then some (recT a0 a1) else none
theorem tar_Record.calls (a0 a1 r : ByteArray) (w : World) (hT : Aside0 (Tabs w)) (h : tar_Record.f a0 a1 = some r) :
    Calls Tryz.prog 14 #[.string a0, .string a1] w fun e w' => e = .returned (.string r) ∧ Below w.heap.size w w' := by
  unfold tar_Record.f at h
  split at h
  · rename_i hc
    obtain rfl := Option.some.inj h
    exact record_calls a0 a1 w hT hc
  · cases h
end Go.Proofs.YtdijnmcfpbceaaaGreatDoor.X

namespace Go.Proofs.YtdijnmcfpbceaaaGreatDoor.X
open Go.RowKit Go.Proofs.YtdijnmcfpbceaaaGreatDoorW.PrintWords Go.Proofs.YtdijnmcfpbceaaaGreatDoorW.PrintLast Go.Proofs.YtdijnmcfpbceaaaGreatDoorW.PrintMore Go.Proofs.YtdijnmcfpbceaaaGreatDoor.P
set_option linter.unusedVariables false
set_option linter.unusedSimpArgs false
structure EntT where
  name : ByteArray
  kind : Int
  link : ByteArray
  data : ByteArray
def padN (n : Nat) : Nat := (512 - n % 512) % 512
def entryB (e : EntT) : List Int := (layR e.name e.kind (e.data.size : Int) e.link).1 ++ (bytesOf e.data ++ List.replicate (padN e.data.size) 0)
def nameN (n : S47) : ByteArray := if n.f0.size = 0 then ⟨#[46]⟩ else n.f0
def cutS (s : ByteArray) : ByteArray := s.extract 0 (min s.size 100)
def extraN (n : S47) : ByteArray :=
  (if 100 < (nameN n).size then recT ⟨#[112, 97, 116, 104]⟩ (nameN n) else ⟨#[]⟩) ++ (if n.f1 = 4 ∧ 100 < n.f2.size then recT ⟨#[108, 105, 110, 107, 112, 97, 116, 104]⟩ n.f2 else ⟨#[]⟩)
def ownE (n : S47) : EntT := if n.f1 = 4 then ⟨cutS (nameN n), n.f1, cutS n.f2, ⟨#[]⟩⟩ else ⟨cutS (nameN n), n.f1, ⟨#[]⟩, n.f2⟩
def entsN (n : S47) : List EntT := (if (extraN n).size = 0 then [] else [⟨⟨#[112, 97, 120]⟩, 5, ⟨#[]⟩, extraN n⟩]) ++ [ownE n]
def entsT (t : List S47) : List EntT := t.flatMap entsN
def tarB (t : List S47) : List Int := (entsT t).flatMap entryB ++ List.replicate 1024 0
def tarR (t : List S47) : List Int × Int := if treeB t = true then (tarB t, 0) else ([], 7)
theorem padN_mod (n : Nat) : (n + padN n) % 512 = 0 := by unfold padN; omega
theorem layR_mod (a0 : ByteArray) (a1 a2 : Int) (a3 : ByteArray) : (layR a0 a1 a2 a3).1.length % 512 = 0 := by
  unfold layR
  split
  · rename_i h
    obtain ⟨hm, _, _⟩ := h
    rw [layB_length _ _ _ _ (by unfold MayR at hm; omega) (by unfold MayR at hm; omega)]
  · rfl
theorem entryB_mod (e : EntT) : (entryB e).length % 512 = 0 := by
  have h1 := layR_mod e.name e.kind (e.data.size : Int) e.link
  have h2 := padN_mod e.data.size
  unfold entryB
  rw [List.length_append, List.length_append, List.length_replicate, bytesOf_length]
  omega
theorem flat_mod : ∀ l : List EntT, (l.flatMap entryB).length % 512 = 0
  | [] => rfl
  | e :: l => by
    rw [List.flatMap_cons, List.length_append]
    have h1 := entryB_mod e
    have h2 := flat_mod l
    omega
end Go.Proofs.YtdijnmcfpbceaaaGreatDoor.X

namespace Go.Proofs.YtdijnmcfpbceaaaGreatDoor.P
open Go.Proofs.YtdijnmcfpbceaaaGreatDoor.X
open Go.RowKit Go.Proofs.YtdijnmcfpbceaaaGreatDoorW.PrintWords Go.Proofs.YtdijnmcfpbceaaaGreatDoorW.PrintLast Go.Proofs.YtdijnmcfpbceaaaGreatDoorW.PrintMore
attribute [local go_sem] min2_int min_two
set_option linter.unusedVariables false
set_option linter.unusedSimpArgs false
def stringslite_HasPrefix.f (a0 : ByteArray) (a1 : ByteArray) : Option (Bool) := if (a0.size : Int) ≥ (a1.size : Int) then (if 0 ≤ (a1.size : Int) then (if (a1.size : Int) ≤ (a0.size : Int) then (some ((a0.extract 0 ((a1.size : Int) : Int).toNat).toList == a1.toList)) else (none)) else (none)) else (some false)
set_option maxHeartbeats 8000000 in
set_option maxRecDepth 100000 in
theorem stringslite_HasPrefix.calls (a0 : ByteArray) (a1 : ByteArray) (r : Bool) (w : World) (h : stringslite_HasPrefix.f a0 a1 = some r) :
  Calls Tryz.prog 150 #[.string a0, .string a1] w fun e w' => e = .returned (.bool r) ∧ Drawn0 w w' := by
 have H : (if (a0.size : Int) ≥ (a1.size : Int) then (if 0 ≤ (a1.size : Int) then (if (a1.size : Int) ≤ (a0.size : Int) then (some ((a0.extract 0 ((a1.size : Int) : Int).toNat).toList == a1.toList)) else (none)) else (none)) else (some false)) = some r := h
 clear h
 by_cases c3 : (a0.size : Int) ≥ (a1.size : Int)
 ·rw [if_pos c3] at H
  have c3b0 : decide ((a1.size : Int) ≤ (a0.size : Int)) = true := decide_eq_true c3
  have c3b1 : decide (a1.size ≤ a0.size) = true := decide_eq_true (Int.ofNat_le.mp c3)
  clear c3
  by_cases c4 : 0 ≤ (a1.size : Int)
  ·rw [if_pos c4] at H
   have c4b0 := eq_true c4
   have c4b1 : decide (0 ≤ (a1.size : Int)) = true := decide_eq_true c4
   clear c4
   by_cases c5 : (a1.size : Int) ≤ (a0.size : Int)
   ·rw [if_pos c5] at H
    have c5b0 := eq_true c5
    have c5b1 : decide ((a1.size : Int) ≤ (a0.size : Int)) = true := decide_eq_true c5
    clear c5
    obtain rfl := Option.some.inj H
    go_enter Tryz.func150, Tryz.ntmps150
    go_wp2
    go_ret
    exact ⟨by first | rfl | (simp; done) | (simp [*]; done), by repeat (first | exact Drawn0.refl _ | apply Drawn0.step)⟩
   ·rw [if_neg c5] at H
    exact absurd H (by simp)
  ·rw [if_neg c4] at H
   exact absurd H (by simp)
 ·rw [if_neg c3] at H
  have c3b0 : decide ((a1.size : Int) ≤ (a0.size : Int)) = false := decide_eq_false c3
  have c3b1 : decide (a1.size ≤ a0.size) = false := decide_eq_false (fun h => c3 (Int.ofNat_le.mpr h))
  clear c3
  obtain rfl := Option.some.inj H
  go_enter Tryz.func150, Tryz.ntmps150
  go_wp2
  go_ret
  exact ⟨by first | rfl | (simp; done) | (simp [*]; done), by repeat (first | exact Drawn0.refl _ | apply Drawn0.step)⟩
end Go.Proofs.YtdijnmcfpbceaaaGreatDoor.P

namespace Go.Proofs.YtdijnmcfpbceaaaGreatDoor.P
open Go.Proofs.YtdijnmcfpbceaaaGreatDoor.X
open Go.RowKit Go.Proofs.YtdijnmcfpbceaaaGreatDoorW.PrintWords Go.Proofs.YtdijnmcfpbceaaaGreatDoorW.PrintLast Go.Proofs.YtdijnmcfpbceaaaGreatDoorW.PrintMore
attribute [local go_sem] min2_int min_two
set_option linter.unusedVariables false
set_option linter.unusedSimpArgs false
def strings_HasPrefix.f (a0 : ByteArray) (a1 : ByteArray) : Option (Bool) := (stringslite_HasPrefix.f a0 a1).bind fun t162 => (some t162)
set_option maxHeartbeats 8000000 in
set_option maxRecDepth 100000 in
theorem strings_HasPrefix.calls (a0 : ByteArray) (a1 : ByteArray) (r : Bool) (w : World) (h : strings_HasPrefix.f a0 a1 = some r) :
  Calls Tryz.prog 135 #[.string a0, .string a1] w fun e w' => e = .returned (.bool r) ∧ Drawn0 w w' := by
 have H : ((stringslite_HasPrefix.f a0 a1).bind fun t162 => (some t162)) = some r := h
 clear h
 replace H := Option.bind_eq_some_iff.mp H
 obtain ⟨t162, A30, H⟩ := H
 replace H : (some t162) = some r := H
 have A3 := Aside0.mk A30
 clear A30
 obtain rfl := Option.some.inj H
 go_enter Tryz.func135, Tryz.ntmps135
 go_wp2_with (first | ((with_reducible refine gate_callee (f := 150) rfl ?_); refine goesL_ (some 7) rfl rfl Tryz.func150 (by kernel_rfl) rfl #[.string a0, .string a1] rfl (by (try simp only [List.map_toArray, List.map_cons, List.map_nil]); first | done | rfl | (simp only [List.length_drop, List.length_take]; rfl)) ?_; (with_reducible refine (stringslite_HasPrefix.calls a0 a1 t162 _ A3.out).mono ?_); rintro e w' ⟨rfl, ⟨nd, rfl⟩⟩; refine ⟨_, rfl, ?_⟩))
 go_ret
 exact ⟨by first | rfl | (simp; done) | (simp [*]; done), by repeat (first | exact Drawn0.refl _ | apply Drawn0.step)⟩
end Go.Proofs.YtdijnmcfpbceaaaGreatDoor.P

namespace Go.Proofs.YtdijnmcfpbceaaaGreatDoor.P
open Go.Proofs.YtdijnmcfpbceaaaGreatDoor.X
open Go.RowKit Go.Proofs.YtdijnmcfpbceaaaGreatDoorW.PrintWords Go.Proofs.YtdijnmcfpbceaaaGreatDoorW.PrintLast Go.Proofs.YtdijnmcfpbceaaaGreatDoorW.PrintMore
attribute [local go_sem] min2_int min_two
set_option linter.unusedVariables false
set_option linter.unusedSimpArgs false
def path_Part.f (a0 : ByteArray) : Option (Bool) := if a0.toList = ([] : List UInt8) then (some false) else (if (a0.size : Int) ≤ 60 then ((strings_IndexByte.f a0 47).bind fun t163 => (if t163 < 0 then ((strings_IndexByte.f a0 0).bind fun t164 => (if t164 < 0 then (if a0.toList = ([46] : List UInt8) then (some false) else (if a0.toList = ([46, 46] : List UInt8) then (some false) else ((strings_HasPrefix.f a0 (⟨#[46, 119, 104, 46]⟩ : ByteArray)).bind fun t165 => (some (!t165))))) else (some false))) else (some false))) else (some false))
set_option maxHeartbeats 8000000 in
set_option maxRecDepth 100000 in
theorem path_Part.calls (a0 : ByteArray) (r : Bool) (w : World) (h : path_Part.f a0 = some r) :
  Calls Tryz.prog 119 #[.string a0] w fun e w' => e = .returned (.bool r) ∧ Drawn0 w w' := by
 have H : (if a0.toList = ([] : List UInt8) then (some false) else (if (a0.size : Int) ≤ 60 then ((strings_IndexByte.f a0 47).bind fun t163 => (if t163 < 0 then ((strings_IndexByte.f a0 0).bind fun t164 => (if t164 < 0 then (if a0.toList = ([46] : List UInt8) then (some false) else (if a0.toList = ([46, 46] : List UInt8) then (some false) else ((strings_HasPrefix.f a0 (⟨#[46, 119, 104, 46]⟩ : ByteArray)).bind fun t165 => (some (!t165))))) else (some false))) else (some false))) else (some false))) = some r := h
 clear h
 by_cases c2 : a0.toList = ([] : List UInt8)
 ·rw [if_pos c2] at H
  have c2b0 : (a0.toList == ([] : List UInt8)) = true := beq_iff_eq.mpr c2
  have c2b1 : (a0.toList != ([] : List UInt8)) = false := bne_eq_false_iff_eq.mpr c2
  clear c2
  obtain rfl := Option.some.inj H
  go_enter Tryz.func119, Tryz.ntmps119
  go_wp2
  go_ret
  exact ⟨by first | rfl | (simp; done) | (simp [*]; done), by repeat (first | exact Drawn0.refl _ | apply Drawn0.step)⟩
 ·rw [if_neg c2] at H
  have c2b0 : (a0.toList == ([] : List UInt8)) = false := beq_eq_false_iff_ne.mpr c2
  have c2b1 : (a0.toList != ([] : List UInt8)) = true := bne_iff_ne.mpr c2
  by_cases c3 : (a0.size : Int) ≤ 60
  ·rw [if_pos c3] at H
   have c3b0 : decide ((a0.size : Int) ≤ 60) = true := decide_eq_true c3
   have c3b1 : decide (a0.size ≤ 60) = true := decide_eq_true (by omega)
   clear c3
   replace H := Option.bind_eq_some_iff.mp H
   obtain ⟨t163, A40, H⟩ := H
   replace H : (if t163 < 0 then ((strings_IndexByte.f a0 0).bind fun t164 => (if t164 < 0 then (if a0.toList = ([46] : List UInt8) then (some false) else (if a0.toList = ([46, 46] : List UInt8) then (some false) else ((strings_HasPrefix.f a0 (⟨#[46, 119, 104, 46]⟩ : ByteArray)).bind fun t165 => (some (!t165))))) else (some false))) else (some false)) = some r := H
   have A4 := Aside0.mk A40
   clear A40
   by_cases c5 : t163 < 0
   ·rw [if_pos c5] at H
    have c5b0 : decide (t163 < 0) = true := decide_eq_true c5
    clear c5
    replace H := Option.bind_eq_some_iff.mp H
    obtain ⟨t164, A60, H⟩ := H
    replace H : (if t164 < 0 then (if a0.toList = ([46] : List UInt8) then (some false) else (if a0.toList = ([46, 46] : List UInt8) then (some false) else ((strings_HasPrefix.f a0 (⟨#[46, 119, 104, 46]⟩ : ByteArray)).bind fun t165 => (some (!t165))))) else (some false)) = some r := H
    have A6 := Aside0.mk A60
    clear A60
    by_cases c7 : t164 < 0
    ·rw [if_pos c7] at H
     have c7b0 : decide (t164 < 0) = true := decide_eq_true c7
     clear c7
     by_cases c8 : a0.toList = ([46] : List UInt8)
     ·rw [if_pos c8] at H
      have c8b0 : (a0.toList == ([46] : List UInt8)) = true := beq_iff_eq.mpr c8
      have c8b1 : (a0.toList != ([46] : List UInt8)) = false := bne_eq_false_iff_eq.mpr c8
      clear c8
      obtain rfl := Option.some.inj H
      go_enter Tryz.func119, Tryz.ntmps119
      go_wp2_with (first | (go_at_call 77; (with_reducible refine (strings_IndexByte.calls a0 47 t163 _ A4.out).mono ?_); rintro e w' ⟨rfl, ⟨nd, rfl⟩⟩) | (go_at_call 77; (with_reducible refine (strings_IndexByte.calls a0 0 t164 _ A6.out).mono ?_); rintro e w' ⟨rfl, ⟨nd, rfl⟩⟩))
      go_ret
      exact ⟨by first | rfl | (simp; done) | (simp [*]; done), by repeat (first | exact Drawn0.refl _ | apply Drawn0.step)⟩
     ·rw [if_neg c8] at H
      have c8b0 : (a0.toList == ([46] : List UInt8)) = false := beq_eq_false_iff_ne.mpr c8
      have c8b1 : (a0.toList != ([46] : List UInt8)) = true := bne_iff_ne.mpr c8
      by_cases c9 : a0.toList = ([46, 46] : List UInt8)
      ·rw [if_pos c9] at H
       have c9b0 : (a0.toList == ([46, 46] : List UInt8)) = true := beq_iff_eq.mpr c9
       have c9b1 : (a0.toList != ([46, 46] : List UInt8)) = false := bne_eq_false_iff_eq.mpr c9
       clear c9
       obtain rfl := Option.some.inj H
       go_enter Tryz.func119, Tryz.ntmps119
       go_wp2_with (first | (go_at_call 77; (with_reducible refine (strings_IndexByte.calls a0 47 t163 _ A4.out).mono ?_); rintro e w' ⟨rfl, ⟨nd, rfl⟩⟩) | (go_at_call 77; (with_reducible refine (strings_IndexByte.calls a0 0 t164 _ A6.out).mono ?_); rintro e w' ⟨rfl, ⟨nd, rfl⟩⟩))
       go_ret
       exact ⟨by first | rfl | (simp; done) | (simp [*]; done), by repeat (first | exact Drawn0.refl _ | apply Drawn0.step)⟩
      ·rw [if_neg c9] at H
       have c9b0 : (a0.toList == ([46, 46] : List UInt8)) = false := beq_eq_false_iff_ne.mpr c9
       have c9b1 : (a0.toList != ([46, 46] : List UInt8)) = true := bne_iff_ne.mpr c9
       replace H := Option.bind_eq_some_iff.mp H
       obtain ⟨t165, A100, H⟩ := H
       replace H : (some (!t165)) = some r := H
       have A10 := Aside0.mk A100
       clear A100
       obtain rfl := Option.some.inj H
       go_enter Tryz.func119, Tryz.ntmps119
       go_wp2_with (first | (go_at_call 77; (with_reducible refine (strings_IndexByte.calls a0 47 t163 _ A4.out).mono ?_); rintro e w' ⟨rfl, ⟨nd, rfl⟩⟩) | (go_at_call 77; (with_reducible refine (strings_IndexByte.calls a0 0 t164 _ A6.out).mono ?_); rintro e w' ⟨rfl, ⟨nd, rfl⟩⟩) | (go_at_call 135; (with_reducible refine (strings_HasPrefix.calls a0 (⟨#[46, 119, 104, 46]⟩ : ByteArray) t165 _ A10.out).mono ?_); rintro e w' ⟨rfl, ⟨nd, rfl⟩⟩))
       go_ret
       exact ⟨by first | rfl | (simp; done) | (simp [*]; done), by repeat (first | exact Drawn0.refl _ | apply Drawn0.step)⟩
    ·rw [if_neg c7] at H
     have c7b0 : decide (t164 < 0) = false := decide_eq_false c7
     clear c7
     obtain rfl := Option.some.inj H
     go_enter Tryz.func119, Tryz.ntmps119
     go_wp2_with (first | (go_at_call 77; (with_reducible refine (strings_IndexByte.calls a0 47 t163 _ A4.out).mono ?_); rintro e w' ⟨rfl, ⟨nd, rfl⟩⟩) | (go_at_call 77; (with_reducible refine (strings_IndexByte.calls a0 0 t164 _ A6.out).mono ?_); rintro e w' ⟨rfl, ⟨nd, rfl⟩⟩))
     go_ret
     exact ⟨by first | rfl | (simp; done) | (simp [*]; done), by repeat (first | exact Drawn0.refl _ | apply Drawn0.step)⟩
   ·rw [if_neg c5] at H
    have c5b0 : decide (t163 < 0) = false := decide_eq_false c5
    clear c5
    obtain rfl := Option.some.inj H
    go_enter Tryz.func119, Tryz.ntmps119
    go_wp2_with (first | (go_at_call 77; (with_reducible refine (strings_IndexByte.calls a0 47 t163 _ A4.out).mono ?_); rintro e w' ⟨rfl, ⟨nd, rfl⟩⟩))
    go_ret
    exact ⟨by first | rfl | (simp; done) | (simp [*]; done), by repeat (first | exact Drawn0.refl _ | apply Drawn0.step)⟩
  ·rw [if_neg c3] at H
   have c3b0 : decide ((a0.size : Int) ≤ 60) = false := decide_eq_false c3
   have c3b1 : decide (a0.size ≤ 60) = false := decide_eq_false (by omega)
   clear c3
   obtain rfl := Option.some.inj H
   go_enter Tryz.func119, Tryz.ntmps119
   go_wp2
   go_ret
   exact ⟨by first | rfl | (simp; done) | (simp [*]; done), by repeat (first | exact Drawn0.refl _ | apply Drawn0.step)⟩
end Go.Proofs.YtdijnmcfpbceaaaGreatDoor.P

namespace Go.Proofs.YtdijnmcfpbceaaaGreatDoor.X
open Go.RowKit Go.Proofs.YtdijnmcfpbceaaaGreatDoorW.PrintWords Go.Proofs.YtdijnmcfpbceaaaGreatDoorW.PrintLast Go.Proofs.YtdijnmcfpbceaaaGreatDoorW.PrintMore Go.Proofs.YtdijnmcfpbceaaaGreatDoor.P
set_option linter.unusedVariables false
set_option linter.unusedSimpArgs false
theorem hasPrefix_eq (a b : ByteArray) : strings_HasPrefix.f a b = some (b.data.toList.isPrefixOf a.data.toList) := by
  unfold strings_HasPrefix.f stringslite_HasPrefix.f
  have h1 : b.data.toList.length = b.size := data_length b
  have h2 : a.data.toList.length = a.size := data_length a
  by_cases h : b.size ≤ a.size
  · rw [if_pos (by omega), if_pos (by omega), if_pos (by omega)]
    simp only [Option.bind_some]
    congr 1
    rw [ByteArray.toList_eq, ByteArray.toList_eq, Lib.extract_from_zero, Int.toNat_natCast, ← h1, Bool.eq_iff_iff, beq_iff_eq, List.isPrefixOf_iff_prefix, List.prefix_iff_eq_take]
    exact eq_comm
  · rw [if_neg (by omega)]
    simp only [Option.bind_some]
    congr 1
    symm
    rw [Bool.eq_false_iff]
    intro hp
    have := (List.isPrefixOf_iff_prefix.1 hp).length_le
    omega
theorem part_eq (s : ByteArray) : path_Part.f s = some (partB s.data.toList) := by
  unfold path_Part.f partB strings_IndexByte.f
  rw [hasPrefix_eq]
  rw [show (⟨#[46, 119, 104, 46]⟩ : ByteArray).data.toList = [46, 119, 104, 46] from rfl]
  rw [ByteArray.toList_eq]
  have hl : (s.size : Int) = (s.data.toList.length : Int) := by rw [data_length]
  rw [hl]
  generalize s.data.toList = l
  simp only [Option.bind_some]
  have i1 := indexByte_none l 47
  have i2 := indexByte_none l 0
  rw [show ((47 : Int).toNat.toUInt8) = (47 : UInt8) from rfl, show ((0 : Int).toNat.toUInt8) = (0 : UInt8) from rfl]
  simp only [i1, i2]
  by_cases h1 : l = []
  · simp [h1]
  · by_cases h2 : l.length ≤ 60
    · have h2' : (l.length : Int) ≤ 60 := by omega
      by_cases h3 : (47 : UInt8) ∈ l
      · simp [h1, h2, h2', h3]
      · by_cases h4 : (0 : UInt8) ∈ l
        · simp [h1, h2, h2', h3, h4]
        · by_cases h5 : l = [46]
          · subst h5; simp
          · by_cases h6 : l = [46, 46]
            · subst h6; simp
            · simp [h1, h2, h2', h3, h4, h5, h6]
    · have h2' : ¬ (l.length : Int) ≤ 60 := by omega
      simp [h1, h2, h2']
def pieces (p : ByteArray) : List ByteArray := Lib.splitB ⟨#[47]⟩ 0 (Lib.countB p ⟨#[47]⟩) p
set_option maxHeartbeats 4000000 in
theorem parts_calls (p : ByteArray) (w : World) (hT : Aside0 (Tabs w)) :
    Calls Tryz.prog 97 #[.string p] w fun e w' => ∃ v, e = .returned (.tuple #[v, .bool (pathB p.data.toList)]) ∧ Below w.heap.size w w' := by
  obtain ⟨b0, hb0⟩ : ∃ b, (p.toList == []) = b := ⟨_, rfl⟩
  obtain ⟨b1, hb1⟩ : ∃ b, decide ((200 : Int) < (p.size : Int)) = b := ⟨_, rfl⟩
  go_enter Tryz.func97, Tryz.ntmps97
  cases b0 with
  | true =>
    have HP := Aside0.mk (show pathB p.data.toList = true by
      rw [beq_iff_eq, ByteArray.toList_eq] at hb0
      unfold pathB
      rw [decide_eq_true hb0, Bool.true_or])
    go_wp2_with fail
    go_ret2
    exact ⟨.slice none 0 0, by rw [HP.out]; rfl, Below.refl _ _⟩
  | false =>
    have HE := Aside0.mk (show p.data.toList ≠ [] by
      rw [beq_eq_false_iff_ne, ByteArray.toList_eq] at hb0
      exact hb0)
    cases b1 with
    | true =>
      have HP := Aside0.mk (show pathB p.data.toList = false by
        have := of_decide_eq_true hb1
        unfold pathB
        rw [decide_eq_false HE.out, Bool.false_or, decide_eq_false (by rw [data_length]; omega)]
        rfl)
      go_wp2_with fail
      go_ret2
      exact ⟨.slice none 0 0, by rw [HP.out]; rfl, Below.refl _ _⟩
    | false =>
      have hn : p.size ≤ 200 := by
        have := of_decide_eq_false hb1
        omega
      obtain ⟨m, hm⟩ := hT.out.maxl
      have HC := Aside0.mk (Tryz.strings_Split p ⟨#[47]⟩ m w (by omega) hm (by decide))
      have HL := Aside0.mk (show (pieces p).length = Lib.countB p ⟨#[47]⟩ + 1 ∧ (pieces p).map (·.data.toList) = cutL 47 p.data.toList from ⟨Lib.splitB_all ⟨#[47]⟩ (by decide) 0 _ p rfl, by
        unfold pieces
        rw [Lib.splitB_data]
        exact splitK_cutL 47 _ _ (Lib.count_one 47 _).symm⟩)
      clear hm
      go_wp2_with fail
      refine HC.out.mono ?_
      rintro e w1 ⟨rfl, hw1⟩
      have HB1 := Aside0.mk (show Below w.heap.size w w1 from by rw [hw1]; exact below_alloc (Below.refl _ _) _)
      have HS1 := Aside0.mk (strsG (pieces p) (show w1.heap[w.heap.size]? = some (.cells ((pieces p).map Value.string).toArray 9 (0, 0)) from by rw [hw1]; exact blk_new w _) (by rw [HL.out.1]; have := Lib.countB_le ⟨#[47]⟩ (by decide) p.size p (Nat.le_refl _); omega))
      have hnl : (pieces p).length ≤ 201 := by
        have := Lib.countB_le ⟨#[47]⟩ (by decide) p.size p (Nat.le_refl _)
        rw [HL.out.1]
        omega
      rw [← HL.out.1]
      have HPath := Aside0.mk (show pathB p.data.toList = ((pieces p).all (fun s => partB s.data.toList) && decide ((pieces p).length ≤ 10)) from by
        unfold pathB
        rw [decide_eq_false HE.out, Bool.false_or, decide_eq_true (by rw [data_length]; exact hn), Bool.true_and, ← HL.out.2, List.all_map, List.length_map]
        rfl)
      clear hw1 HC HL
      generalize pieces p = PS at *
      generalize w.heap.size = g at HS1
      go_wp2_with fail
      go_loopw [16] (fun v16 wr => ∃ (i : Nat), v16 = .int .i64 i ∧ i ≤ PS.length ∧ Aside0 (∀ j (h : j < PS.length), j < i → partB PS[j].data.toList = true) ∧ Aside0 (Below w.heap.size w wr) ∧ Aside0 (Below w1.heap.size w1 wr)) (fun a _ => PS.length - (intOf a).toNat)
      case atStart => exact ⟨0, rfl, by omega, ⟨fun j h h2 => by omega⟩, HB1, ⟨Below.refl _ _⟩⟩
      case round =>
        obtain ⟨i, rfl, hi, HI, HB, HW⟩ := hrel
        by_cases hil : i < PS.length
        · have hic : decide ((i : Int) < (PS.length : Int)) = true := by simp; omega
          have hi0 : 0 ≤ (i : Int) := by omega
          obtain ⟨ad, hq, hk0⟩ := Kd.at_string (Kd.C_below HS1.out HW.out) (i : Int) hi0 (by omega)
          injection hq with hq
          subst hq
          simp only [Int.toNat_natCast] at hk0
          have hk1 := hk0
          rw [addG] at hk1
          have HM := Aside0.mk (show rdOf ByteArray.empty PS (i : Int) = PS[i] from by simp [rdOf, List.getD_eq_getElem?_getD, hil])
          generalize rdOf ByteArray.empty PS (i : Int) = s at *
          go_wp2_with fail
          refine (path_Part.calls s _ wr (part_eq s)).mono ?_
          rintro e w2 ⟨rfl, hd2⟩
          have HB2 := Aside0.mk (below_step HB.out hd2.below)
          have HW2 := Aside0.mk (below_step HW.out hd2.below)
          clear hd2 HB HW
          obtain ⟨bp, hbp⟩ : ∃ b, partB s.data.toList = b := ⟨_, rfl⟩
          cases bp with
          | true =>
            rw [hbp]
            go_wp2_with fail
            refine ⟨⟨i + 1, by simp, by omega, ⟨fun j h h2 => ?_⟩, HB2, HW2⟩, by simp [intOf]; omega⟩
            rcases Nat.lt_or_ge j i with h3 | h3
            · exact HI.out j h h3
            · obtain rfl : j = i := by omega
              rw [← HM.out]
              exact hbp
          | false =>
            rw [hbp]
            have HF := Aside0.mk (show pathB p.data.toList = false from by
              rw [HPath.out, List.all_eq_false.2 ⟨PS[i], List.getElem_mem _, by rw [← HM.out, hbp]; simp⟩, Bool.false_and])
            go_wp2_with fail
            go_ret2
            exact ⟨.slice none 0 0, by rw [HF.out]; rfl, HB2.out⟩
        · have hic : decide ((i : Int) < (PS.length : Int)) = false := by simp; omega
          have HA := Aside0.mk (show PS.all (fun s => partB s.data.toList) = true from List.all_eq_true.2 (fun s hs => by
            obtain ⟨j, hj, e⟩ := List.mem_iff_getElem.1 hs
            rw [← e]
            exact HI.out j hj (by omega)))
          have HF := Aside0.mk (show pathB p.data.toList = decide (PS.length ≤ 10) from by rw [HPath.out, HA.out, Bool.true_and])
          obtain ⟨b9, hb9⟩ : ∃ b, decide ((PS.length : Int) ≤ 10) = b := ⟨_, rfl⟩
          have HF9 := Aside0.mk (show decide (PS.length ≤ 10) = b9 from by rw [← hb9]; exact decide_eq_decide.2 (by omega))
          go_wp2_with fail
          go_ret2
          exact ⟨_, by rw [HF.out, HF9.out]; rfl, HB.out⟩
theorem may_calls (p : ByteArray) (w : World) (hT : Aside0 (Tabs w)) :
    Calls Tryz.prog 76 #[.string p] w fun e w' => e = .returned (.bool (pathB p.data.toList)) ∧ Below w.heap.size w w' := by
  go_enter Tryz.func76, Tryz.ntmps76
  go_wp2_with fail
  refine (parts_calls p w hT).mono ?_
  rintro e w1 ⟨v, rfl, hb⟩
  have HB := Aside0.mk hb
  clear hb
  go_wp2_with fail
  go_ret
  exact ⟨rfl, HB.out⟩
def path_May.f (p : ByteArray) : Option Bool := some (pathB p.data.toList)
theorem path_May.calls (p : ByteArray) (r : Bool) (w : World) (hT : Aside0 (Tabs w)) (h : path_May.f p = some r) :
    Calls Tryz.prog 76 #[.string p] w fun e w' => e = .returned (.bool r) ∧ Below w.heap.size w w' := by
  cases h
  exact may_calls p w hT
end Go.Proofs.YtdijnmcfpbceaaaGreatDoor.X

namespace Go.Proofs.YtdijnmcfpbceaaaGreatDoor.P
open Go.Proofs.YtdijnmcfpbceaaaGreatDoor.X
open Go.RowKit Go.Proofs.YtdijnmcfpbceaaaGreatDoorW.PrintWords Go.Proofs.YtdijnmcfpbceaaaGreatDoorW.PrintLast Go.Proofs.YtdijnmcfpbceaaaGreatDoorW.PrintMore
attribute [local go_sem] min2_int min_two
set_option linter.unusedVariables false
set_option linter.unusedSimpArgs false
def bytealg_LastIndexByteString.l0 : Nat → ByteArray → Int → Int → Option (Int)
 | 0, _, _, _ => none
 | k + 1, x0, x1, x5 => if x5 ≥ 0 then (if 0 ≤ x5 then (if x5 < (x0.size : Int) then (if (bt x0 x5) = x1 then (some x5) else (bytealg_LastIndexByteString.l0 k x0 x1 (wrap64 (x5 - 1)))) else (none)) else (none)) else (some (-1))
def bytealg_LastIndexByteString.f (k : Nat) (a0 : ByteArray) (a1 : Int) : Option (Int) := bytealg_LastIndexByteString.l0 k a0 a1 (wrap64 ((a0.size : Int) - 1))
set_option maxHeartbeats 8000000 in
set_option maxRecDepth 100000 in
theorem bytealg_LastIndexByteString.calls (k : Nat) (a0 : ByteArray) (a1 : Int) (r : Int) (w : World) (h : bytealg_LastIndexByteString.f k a0 a1 = some r) :
  Calls Tryz.prog 121 #[.string a0, .int .u8 a1] w fun e w' => e = .returned (.int .i64 r) ∧ Drawn0 w w' := by
 have H : (bytealg_LastIndexByteString.l0 k a0 a1 (wrap64 ((a0.size : Int) - 1))) = some r := h
 clear h
 have H' := Aside0.mk H
 clear H
 go_enter Tryz.func121, Tryz.ntmps121
 go_wp2
 go_loopg [5] k (fun kq v5 w' => ∃ (x5_1 : Int), v5 = .int .i64 x5_1 ∧ Aside0 (bytealg_LastIndexByteString.l0 kq a0 a1 x5_1 = some r) ∧ Aside0 (kq ≤ k) ∧ Drawn0 w w')
 case atStart => exact ⟨(wrap64 ((a0.size : Int) - 1)), (by first | rfl | (simp; done) | (simp [*]; done) | exact congrArg Value.bool (nil_ne _) | exact congrArg Value.bool (nil_eq _) | exact congrArg Value.bool (nil_ne' _)), H', ⟨Nat.le_refl _⟩, by repeat (first | exact Drawn0.refl _ | apply Drawn0.step)⟩
 case round =>
  clear H'
  try clear c1
  try clear p2
  obtain ⟨x5_1, rfl, HA, HK1, ⟨m1, rfl⟩⟩ := hrel
  cases gk with
  | zero => exact absurd HA.out (by simp [bytealg_LastIndexByteString.l0])
  | succ k1 =>
   have H := HA.out
   clear HA
   simp only [bytealg_LastIndexByteString.l0] at H
   by_cases c3 : x5_1 ≥ 0
   ·rw [if_pos c3] at H
    have c3b0 : decide (0 ≤ x5_1) = true := decide_eq_true c3
    clear c3
    by_cases c4 : 0 ≤ x5_1
    ·rw [if_pos c4] at H
     have c4b0 : decide (0 ≤ x5_1) = true := decide_eq_true c4
     clear c4
     by_cases c5 : x5_1 < (a0.size : Int)
     ·rw [if_pos c5] at H
      have c5b0 : decide (x5_1 < (a0.size : Int)) = true := decide_eq_true c5
      clear c5
      by_cases c7 : (bt a0 x5_1) = a1
      ·rw [if_pos c7] at H
       have c7b0 : ((bt a0 x5_1) == a1) = true := beq_iff_eq.mpr c7
       have c7b1 : ((bt a0 x5_1) != a1) = false := bne_eq_false_iff_eq.mpr c7
       clear c7
       obtain rfl := Option.some.inj H
       have p6 : 0 ≤ (x5_1 : Int) := of_decide_eq_true (by first | (with_reducible assumption) | assumption)
       have q6 : x5_1 < (a0.size : Int) := of_decide_eq_true (by first | (with_reducible assumption) | assumption)
       have hx6 := bt_at a0 x5_1
       replace p6 := eq_true p6
       replace q6 := eq_true q6
       go_wp2
       go_ret
       exact ⟨by first | rfl | (simp; done) | (simp [*]; done), by repeat (first | exact Drawn0.refl _ | apply Drawn0.step)⟩
      ·rw [if_neg c7] at H
       have c7b0 : ((bt a0 x5_1) == a1) = false := beq_eq_false_iff_ne.mpr c7
       have c7b1 : ((bt a0 x5_1) != a1) = true := bne_iff_ne.mpr c7
       have H' := Aside0.mk H
       clear H
       have p6 : 0 ≤ (x5_1 : Int) := of_decide_eq_true (by first | (with_reducible assumption) | assumption)
       have q6 : x5_1 < (a0.size : Int) := of_decide_eq_true (by first | (with_reducible assumption) | assumption)
       have hx6 := bt_at a0 x5_1
       replace p6 := eq_true p6
       replace q6 := eq_true q6
       go_wp2
       go_roundg k1
       case measure => have := HK1.out; omega
       case rel => exact ⟨(wrap64 (x5_1 - 1)), (by first | rfl | (simp; done) | (simp [*]; done) | exact congrArg Value.bool (nil_ne _) | exact congrArg Value.bool (nil_eq _) | exact congrArg Value.bool (nil_ne' _)), H', ⟨by have := HK1.out; omega⟩, by repeat (first | exact Drawn0.refl _ | apply Drawn0.step)⟩
     ·rw [if_neg c5] at H
      exact absurd H (by simp)
    ·rw [if_neg c4] at H
     exact absurd H (by simp)
   ·rw [if_neg c3] at H
    have c3b0 : decide (0 ≤ x5_1) = false := decide_eq_false c3
    clear c3
    obtain rfl := Option.some.inj H
    go_wp2
    go_ret
    exact ⟨by first | rfl | (simp; done) | (simp [*]; done), by repeat (first | exact Drawn0.refl _ | apply Drawn0.step)⟩
end Go.Proofs.YtdijnmcfpbceaaaGreatDoor.P

namespace Go.Proofs.YtdijnmcfpbceaaaGreatDoor.P
open Go.Proofs.YtdijnmcfpbceaaaGreatDoor.X
open Go.RowKit Go.Proofs.YtdijnmcfpbceaaaGreatDoorW.PrintWords Go.Proofs.YtdijnmcfpbceaaaGreatDoorW.PrintLast Go.Proofs.YtdijnmcfpbceaaaGreatDoorW.PrintMore
attribute [local go_sem] min2_int min_two
set_option linter.unusedVariables false
set_option linter.unusedSimpArgs false
def strings_LastIndexByte.f (k : Nat) (a0 : ByteArray) (a1 : Int) : Option (Int) := (bytealg_LastIndexByteString.f k a0 a1).bind fun t227 => (some t227)
set_option maxHeartbeats 8000000 in
set_option maxRecDepth 100000 in
theorem strings_LastIndexByte.calls (k : Nat) (a0 : ByteArray) (a1 : Int) (r : Int) (w : World) (h : strings_LastIndexByte.f k a0 a1 = some r) :
  Calls Tryz.prog 99 #[.string a0, .int .u8 a1] w fun e w' => e = .returned (.int .i64 r) ∧ Drawn0 w w' := by
 have H : ((bytealg_LastIndexByteString.f k a0 a1).bind fun t227 => (some t227)) = some r := h
 clear h
 replace H := Option.bind_eq_some_iff.mp H
 obtain ⟨t227, A30, H⟩ := H
 replace H : (some t227) = some r := H
 have A3 := Aside0.mk A30
 clear A30
 obtain rfl := Option.some.inj H
 go_enter Tryz.func99, Tryz.ntmps99
 go_wp2_with (first | ((with_reducible refine gate_callee (f := 121) rfl ?_); refine goesL_ (some 7) rfl rfl Tryz.func121 (by kernel_rfl) rfl #[.string a0, .int .u8 a1] rfl (by (try simp only [List.map_toArray, List.map_cons, List.map_nil]); first | done | rfl | (simp only [List.length_drop, List.length_take]; rfl)) ?_; (with_reducible refine (bytealg_LastIndexByteString.calls k a0 a1 t227 _ A3.out).mono ?_); rintro e w' ⟨rfl, ⟨nd, rfl⟩⟩; refine ⟨_, rfl, ?_⟩))
 go_ret
 exact ⟨by first | rfl | (simp; done) | (simp [*]; done), by repeat (first | exact Drawn0.refl _ | apply Drawn0.step)⟩
end Go.Proofs.YtdijnmcfpbceaaaGreatDoor.P

namespace Go.Proofs.YtdijnmcfpbceaaaGreatDoor.X
open Go.RowKit Go.Proofs.YtdijnmcfpbceaaaGreatDoorW.PrintWords Go.Proofs.YtdijnmcfpbceaaaGreatDoorW.PrintLast Go.Proofs.YtdijnmcfpbceaaaGreatDoorW.PrintMore Go.Proofs.YtdijnmcfpbceaaaGreatDoor.P
set_option linter.unusedVariables false
set_option linter.unusedSimpArgs false
theorem up_last (p : ByteArray) : upS p = p.extract 0 (max (Lib.lastIndexByte p 47) 0).toNat := by
  have hz : ∀ j, j < p.size → ((p.data[j]!).toNat : Int) ≠ 47 → p.data.toList[j]? ≠ some 47 := fun j hj h e => by
    apply h
    have : p.data[j]? = some 47 := by rw [← Array.getElem?_toList]; exact e
    rw [Array.getElem!_eq_getD, Array.getD_eq_getD_getElem?, this]
    rfl
  have hs : p.data.toList.length = p.size := data_length p
  rcases Lib.lastIndexByte_spec p 47 with ⟨e, h⟩ | ⟨i, hi, e, hc, h⟩
  · rw [e]
    have : (47 : UInt8) ∉ p.data.toList := fun hm => by
      obtain ⟨j, hj, ej⟩ := List.mem_iff_getElem.1 hm
      exact hz j (by omega) (h j (by omega)) (by rw [List.getElem?_eq_getElem hj, ej])
    unfold upS
    rw [up_none this]
    apply toList_extA
    rw [show (max (-1 : Int) 0).toNat = 0 from rfl, Lib.extract_from_zero]
    rfl
  · rw [e]
    have h1 : p.data.toList[i]? = some 47 := by
      have hd : p.data[i]? = some p.data[i] := Array.getElem?_eq_getElem hi
      rw [Array.getElem!_eq_getD, Array.getD_eq_getD_getElem?, hd] at hc
      rw [Array.getElem?_toList, hd]
      congr 1
      apply UInt8.toNat_inj.1
      have : (p.data[i].toNat : Int) = 47 := hc
      have h47 : (47 : UInt8).toNat = 47 := rfl
      omega
    have h2 : ∀ j, i < j → p.data.toList[j]? ≠ some 47 := fun j hj => by
      rcases Nat.lt_or_ge j p.size with h3 | h3
      · exact hz j h3 (h j hj h3)
      · rw [List.getElem?_eq_none (by omega)]
        simp
    unfold upS
    rw [up_take h1 h2]
    apply toList_extA
    rw [show (max (i : Int) 0).toNat = i by omega, Lib.extract_from_zero]
theorem wrap_pred (i : Nat) (h : i ≤ 9223372036854775807) : wrap64 ((i : Int) - 1) = (i : Int) - 1 := by unfold wrap64; omega
theorem last_l0 (s : ByteArray) (c : Int) (hs : s.size ≤ 9223372036854775807) : ∀ (i k : Nat), i ≤ s.size → i < k → bytealg_LastIndexByteString.l0 k s c ((i : Int) - 1) = some (Lib.lastIdx s c i)
  | 0, k, _, hk => by
    obtain ⟨k, rfl⟩ : ∃ m, k = m + 1 := ⟨k - 1, by omega⟩
    rw [bytealg_LastIndexByteString.l0, if_neg (by omega)]
    rfl
  | i + 1, k, hi, hk => by
    obtain ⟨k, rfl⟩ : ∃ m, k = m + 1 := ⟨k - 1, by omega⟩
    have e : ((i + 1 : Nat) : Int) - 1 = (i : Int) := by omega
    rw [e, bytealg_LastIndexByteString.l0, if_pos (by omega), if_pos (by omega), if_pos (by omega), wrap_pred i (by omega)]
    have hb : bt s (i : Int) = ((s.data[i]!).toNat : Int) := by
      rw [bt_nat s i (by omega)]
      have hd : s.data[i]? = some s.data[i] := Array.getElem?_eq_getElem (by exact Nat.lt_of_succ_le hi)
      rw [Array.getElem!_eq_getD, Array.getD_eq_getD_getElem?, hd, Array.getElem_toList]
      rfl
    rw [hb]
    by_cases h : ((s.data[i]!).toNat : Int) = c
    · rw [if_pos h, Lib.lastIdx_hit s c i h]
    · rw [if_neg h, Lib.lastIdx_miss s c i h]
      exact last_l0 s c hs i k (by omega) (by omega)
theorem last_eq (s : ByteArray) (c : Int) (hs : s.size ≤ 9223372036854775807) : strings_LastIndexByte.f (s.size + 1) s c = some (Lib.lastIndexByte s c) := by
  unfold strings_LastIndexByte.f bytealg_LastIndexByteString.f
  rw [wrap_pred s.size hs, last_l0 s c hs s.size _ (by omega) (by omega)]
  rfl
def parentR (p : ByteArray) : ByteArray × Bool := if p.size = 0 ∨ pathB p.data.toList = false then (⟨#[]⟩, false) else (upS p, true)
set_option maxHeartbeats 4000000 in
theorem parent_calls (p : ByteArray) (w : World) (hT : Aside0 (Tabs w)) :
    Calls Tryz.prog 78 #[.string p] w fun e w' => e = .returned (.tuple #[.string (parentR p).1, .bool (parentR p).2]) ∧ Below w.heap.size w w' := by
  obtain ⟨b0, hb0⟩ : ∃ b, (p.toList == []) = b := ⟨_, rfl⟩
  go_enter Tryz.func78, Tryz.ntmps78
  cases b0 with
  | true =>
    have HP := Aside0.mk (show parentR p = (⟨#[]⟩, false) by
      rw [beq_iff_eq, toList_nil] at hb0
      unfold parentR
      rw [if_pos (.inl hb0)])
    go_wp2_with fail
    go_ret2
    rw [HP.out]
    exact ⟨rfl, Below.refl _ _⟩
  | false =>
    have hn0 : p.size ≠ 0 := fun e => by
      rw [beq_eq_false_iff_ne] at hb0
      exact hb0 ((toList_nil p).2 e)
    obtain ⟨b1, hb1⟩ : ∃ b, pathB p.data.toList = b := ⟨_, rfl⟩
    go_wp2_with fail
    refine (may_calls p w hT).mono ?_
    rintro e w1 ⟨rfl, hB⟩
    have HB := Aside0.mk hB
    clear hB
    rw [hb1]
    cases b1 with
    | false =>
      have HP := Aside0.mk (show parentR p = (⟨#[]⟩, false) from by
        unfold parentR
        rw [if_pos (.inr hb1)])
      go_wp2_with fail
      go_ret2
      rw [HP.out]
      exact ⟨rfl, HB.out⟩
    | true =>
      have hl : p.size ≤ 200 := by
        unfold pathB at hb1
        rw [Bool.or_eq_true, Bool.and_eq_true, Bool.and_eq_true, decide_eq_true_eq, decide_eq_true_eq, data_length] at hb1
        rcases hb1 with h | h
        · have : p.size = 0 := by rw [← data_length, h]; rfl
          omega
        · exact h.1.1
      have HP := Aside0.mk (show parentR p = (upS p, true) from by
        unfold parentR
        rw [if_neg (by rw [hb1]; simp [hn0])])
      have HU := Aside0.mk (up_last p)
      have HL := Aside0.mk (last_eq p 47 (by omega))
      have hlt : (max (Lib.lastIndexByte p 47) 0) ≤ (p.size : Int) := by
        rcases Lib.lastIndexByte_spec p 47 with ⟨e, _⟩ | ⟨i, hi, e, _⟩ <;> rw [e] <;> omega
      have hm0 : 0 ≤ max (Lib.lastIndexByte p 47) 0 := by omega
      clear hb1
      go_wp2_with fail
      refine (strings_LastIndexByte.calls (p.size + 1) p 47 _ w1 HL.out).mono ?_
      rintro e w2 ⟨rfl, hd2⟩
      have HB2 := Aside0.mk (below_step HB.out hd2.below)
      clear hd2 HL
      generalize Lib.lastIndexByte p 47 = li at *
      go_wp2_with fail
      go_ret2
      rw [HP.out, HU.out]
      exact ⟨rfl, HB2.out⟩
def path_Parent.f (p : ByteArray) : Option (ByteArray × Bool) := some (parentR p)
end Go.Proofs.YtdijnmcfpbceaaaGreatDoor.X

namespace Go.Proofs.YtdijnmcfpbceaaaGreatDoor.P
open Go.Proofs.YtdijnmcfpbceaaaGreatDoor.X
open Go.RowKit Go.Proofs.YtdijnmcfpbceaaaGreatDoorW.PrintWords Go.Proofs.YtdijnmcfpbceaaaGreatDoorW.PrintLast Go.Proofs.YtdijnmcfpbceaaaGreatDoorW.PrintMore
attribute [local go_sem] min2_int min_two
set_option linter.unusedVariables false
set_option linter.unusedSimpArgs false
mutual
def tree_Good.j0 : Nat → Bool → ByteArray → Int → ByteArray → Option (Bool)
 | 0, _, _, _, _ => none
 | k + 1, x12, x167000, x167001, x167002 => if x12 = true then (some false) else (if x167001 = 1 then (some (x167002.toList == ([] : List UInt8))) else (if x167001 = 2 then (tree_Good.j1 k x167001 (x167001 == 2) x167000 x167001 x167002) else (tree_Good.j1 k x167001 (x167001 == 3) x167000 x167001 x167002)))
def tree_Good.j1 : Nat → Int → Bool → ByteArray → Int → ByteArray → Option (Bool)
 | 0, _, _, _, _, _ => none
 | k + 1, x14, x20, x167000, x167001, x167002 => if x20 = true then (some true) else (if x14 = 4 then (if x167002.toList = ([] : List UInt8) then (some false) else ((strings_IndexByte.f x167002 0).bind fun t168 => (some (decide (t168 < 0))))) else (some false))
end
def tree_Good.f (k : Nat) (a0_0 : ByteArray) (a0_1 : Int) (a0_2 : ByteArray) : Option (Bool) := (path_May.f a0_0).bind fun t167 => (if t167 = true then (tree_Good.j0 k (decide ((a0_2.size : Int) > 400)) a0_0 a0_1 a0_2) else (tree_Good.j0 k true a0_0 a0_1 a0_2))
set_option maxHeartbeats 8000000 in
set_option maxRecDepth 100000 in
theorem tree_Good.calls (k : Nat) (a0_0 : ByteArray) (a0_1 : Int) (a0_2 : ByteArray) (r : Bool) (w : World) (hT : Aside0 (Tabs w)) (h : tree_Good.f k a0_0 a0_1 a0_2 = some r) :
  Calls Tryz.prog 56 #[.agg #[.string a0_0, .int .i64 a0_1, .string a0_2]] w fun e w' => e = .returned (.bool r) ∧ Below w.heap.size w w' := by
 have hu47 := Tryz.underlying47
 have HB := Aside0.mk (Below.refl w.heap.size w)
 have H : ((path_May.f a0_0).bind fun t167 => (if t167 = true then (tree_Good.j0 k (decide ((a0_2.size : Int) > 400)) a0_0 a0_1 a0_2) else (tree_Good.j0 k true a0_0 a0_1 a0_2))) = some r := h
 clear h
 have HC2 := Aside0.mk H
 clear H
 go_enter Tryz.func56, Tryz.ntmps56
 go_upto_region 1 with (first | ((with_reducible refine gate_dst (N := 1) rfl ?_); (try (refine gate_guard (by rfl) ?_; dsimp only)); refine box_event ?hg (N := 1) ?hd (cs := #[.string a0_0, .int .i64 a0_1, .string a0_2]) (t := 47) ?hr ?_; (case hd => rfl); (case hg => rfl); (case hr => first | (go_simp; done) | (go_simp; rfl)); intro gb166 hg w3 hbox hb; have n0_ := Aside0.mk (below_step (by repeat (first | (with_reducible first | exact HB.out | apply below_alloc | apply pw_below_drewN | apply below_drew1) | exact HB.out)) hb); have n1_ := Aside0.mk (hbox); have n2_ := Aside0.mk ((by rw [hg]; exact (below_size (by repeat (first | (with_reducible first | exact HB.out | apply below_alloc | apply pw_below_drewN | apply below_drew1) | exact HB.out))) : w.heap.size ≤ gb166)); have n3_ := Aside0.mk ((by rw [hg]; exact (below_size (by repeat (first | (with_reducible first | exact HB.out | apply below_alloc | apply pw_below_drewN | apply below_drew1) | exact HB.out))) : w.heap.size ≤ gb166)); clear HB; have HB := n0_; have BK166 := n1_; have GW166 := n2_; have GE166 := n3_; clear n0_ n1_ n2_ n3_; clear hb hbox hg))
 (try simp only [Act.put, List.setIfInBounds_toArray, List.set_cons_zero, List.set_cons_succ])
 go_cut [12] (fun v12 wc => ∃ (kq : Nat) (x12_1 : Bool), v12 = .bool x12_1 ∧ Aside0 (tree_Good.j0 kq x12_1 a0_0 a0_1 a0_2 = some r) ∧ Aside0 (kq ≤ k) ∧ Aside0 (wc.heap[gb166]? = some (.cells #[.string a0_0, .int .i64 a0_1, .string a0_2] 47 (0, 0))) ∧ Aside0 (Below w.heap.size w wc))
 case first =>
  have H := HC2.out
  clear HC2
  replace H := Option.bind_eq_some_iff.mp H
  obtain ⟨t167, A40, H⟩ := H
  replace H : (if t167 = true then (tree_Good.j0 k (decide ((a0_2.size : Int) > 400)) a0_0 a0_1 a0_2) else (tree_Good.j0 k true a0_0 a0_1 a0_2)) = some r := H
  have A4 := Aside0.mk A40
  clear A40
  by_cases c5 : t167 = true
  ·subst c5
   have H1 : (tree_Good.j0 k (decide ((a0_2.size : Int) > 400)) a0_0 a0_1 a0_2) = some r := by rw [if_pos rfl] at H; exact H
   clear H
   have H := H1
   clear H1
   have H' := Aside0.mk H
   clear H
   have hcz6_0 : w3.cell? ⟨gb166, 0, none⟩ = some (.string a0_0) := (blk_cell BK166.out 0).trans rfl
   have hcz6_1 : w3.cell? ⟨gb166, 1, none⟩ = some (.int .i64 a0_1) := (blk_cell BK166.out 1).trans rfl
   have hcz6_2 : w3.cell? ⟨gb166, 2, none⟩ = some (.string a0_2) := (blk_cell BK166.out 2).trans rfl
   have hfz6_0 := blk_frozen BK166.out 0
   have hfz6_1 := blk_frozen BK166.out 1
   have hfz6_2 := blk_frozen BK166.out 2
   go_wp2_with (first | ((with_reducible refine gate_callee (f := 76) rfl ?_); refine goesL_ (some 5) rfl rfl Tryz.func76 (by kernel_rfl) rfl #[.string a0_0] rfl (by (try simp only [List.map_toArray, List.map_cons, List.map_nil]); first | done | rfl | (simp only [List.length_drop, List.length_take]; rfl)) ?_; (with_reducible refine (path_May.calls a0_0 true _ ?side1 A4.out).mono ?_); (case side1 => exact ⟨Tabs.below hT.out (by repeat (first | (with_reducible first | exact HB.out | apply below_alloc | apply pw_below_drewN | apply below_drew1 | refine below_set ?_ GE166.out) | exact HB.out))⟩); rintro e w7 ⟨rfl, hb⟩; refine ⟨_, rfl, ?_⟩; have n0_ := Aside0.mk (blk_below (g := gb166) (o := .cells #[.string a0_0, .int .i64 a0_1, .string a0_2] 47 (0, 0)) (by (with_reducible repeat (first | refine blk_drewN ?_ _ | refine blk_drew ?_ | refine blk_alloc ?_ _)); exact BK166.out) hb); have n1_ := Aside0.mk (below_step (by repeat (first | (with_reducible first | exact HB.out | apply below_alloc | apply pw_below_drewN | apply below_drew1 | refine below_set ?_ GE166.out) | exact HB.out)) hb); clear BK166; clear HB; have BK166 := n0_; have HB := n1_; clear n0_ n1_; (try clear hb); (try clear hb2); (try clear hk); (try clear hi); have hcz8_0 : w7.cell? ⟨gb166, 0, none⟩ = some (.string a0_0) := (blk_cell BK166.out 0).trans rfl; have hcz8_1 : w7.cell? ⟨gb166, 1, none⟩ = some (.int .i64 a0_1) := (blk_cell BK166.out 1).trans rfl; have hcz8_2 : w7.cell? ⟨gb166, 2, none⟩ = some (.string a0_2) := (blk_cell BK166.out 2).trans rfl; have hfz8_0 := blk_frozen BK166.out 0; have hfz8_1 := blk_frozen BK166.out 1; have hfz8_2 := blk_frozen BK166.out 2))
   go_meet
   case rel => exact ⟨_, (decide ((a0_2.size : Int) > 400)), (by first | rfl | (simp; done) | (simp [*]; done) | exact congrArg Value.bool (nil_ne _) | exact congrArg Value.bool (nil_eq _) | exact congrArg Value.bool (nil_ne' _)), H', ⟨by first | omega | exact Nat.le_refl _⟩, ⟨by (with_reducible repeat (first | refine blk_drewN ?_ _ | refine blk_drew ?_ | refine blk_alloc ?_ _)); exact BK166.out⟩, ⟨by repeat (first | (with_reducible first | exact HB.out | apply below_alloc | apply pw_below_drewN | apply below_drew1 | refine below_set ?_ GE166.out) | exact HB.out)⟩⟩
  ·replace c5 := Bool.eq_false_iff.mpr c5
   subst c5
   have H1 : (tree_Good.j0 k true a0_0 a0_1 a0_2) = some r := by rw [if_neg (show ¬ (false = true) by decide)] at H; exact H
   clear H
   have H := H1
   clear H1
   have H' := Aside0.mk H
   clear H
   have hcz9_0 : w3.cell? ⟨gb166, 0, none⟩ = some (.string a0_0) := (blk_cell BK166.out 0).trans rfl
   have hcz9_1 : w3.cell? ⟨gb166, 1, none⟩ = some (.int .i64 a0_1) := (blk_cell BK166.out 1).trans rfl
   have hcz9_2 : w3.cell? ⟨gb166, 2, none⟩ = some (.string a0_2) := (blk_cell BK166.out 2).trans rfl
   have hfz9_0 := blk_frozen BK166.out 0
   have hfz9_1 := blk_frozen BK166.out 1
   have hfz9_2 := blk_frozen BK166.out 2
   go_wp2_with (first | ((with_reducible refine gate_callee (f := 76) rfl ?_); refine goesL_ (some 5) rfl rfl Tryz.func76 (by kernel_rfl) rfl #[.string a0_0] rfl (by (try simp only [List.map_toArray, List.map_cons, List.map_nil]); first | done | rfl | (simp only [List.length_drop, List.length_take]; rfl)) ?_; (with_reducible refine (path_May.calls a0_0 false _ ?side1 A4.out).mono ?_); (case side1 => exact ⟨Tabs.below hT.out (by repeat (first | (with_reducible first | exact HB.out | apply below_alloc | apply pw_below_drewN | apply below_drew1 | refine below_set ?_ GE166.out) | exact HB.out))⟩); rintro e w10 ⟨rfl, hb⟩; refine ⟨_, rfl, ?_⟩; have n0_ := Aside0.mk (blk_below (g := gb166) (o := .cells #[.string a0_0, .int .i64 a0_1, .string a0_2] 47 (0, 0)) (by (with_reducible repeat (first | refine blk_drewN ?_ _ | refine blk_drew ?_ | refine blk_alloc ?_ _)); exact BK166.out) hb); have n1_ := Aside0.mk (below_step (by repeat (first | (with_reducible first | exact HB.out | apply below_alloc | apply pw_below_drewN | apply below_drew1 | refine below_set ?_ GE166.out) | exact HB.out)) hb); clear BK166; clear HB; have BK166 := n0_; have HB := n1_; clear n0_ n1_; (try clear hb); (try clear hb2); (try clear hk); (try clear hi)))
   go_meet
   case rel => exact ⟨_, (true), (by first | rfl | (simp; done) | (simp [*]; done) | exact congrArg Value.bool (nil_ne _) | exact congrArg Value.bool (nil_eq _) | exact congrArg Value.bool (nil_ne' _)), H', ⟨by first | omega | exact Nat.le_refl _⟩, ⟨by (with_reducible repeat (first | refine blk_drewN ?_ _ | refine blk_drew ?_ | refine blk_alloc ?_ _)); exact BK166.out⟩, ⟨by repeat (first | (with_reducible first | exact HB.out | apply below_alloc | apply pw_below_drewN | apply below_drew1 | refine below_set ?_ GE166.out) | exact HB.out)⟩⟩
 case rest =>
  clear HC2
  try clear p2
  try clear c5
  try clear c7
  try clear hcz6_0
  try clear hcz6_1
  try clear hcz6_2
  try clear hcz8_0
  try clear hcz8_1
  try clear hcz8_2
  try clear hcz9_0
  try clear hcz9_1
  try clear hcz9_2
  try clear hfz6_0
  try clear hfz6_1
  try clear hfz6_2
  try clear hfz8_0
  try clear hfz8_1
  try clear hfz8_2
  try clear hfz9_0
  try clear hfz9_1
  try clear hfz9_2
  obtain ⟨kq, x12_1, rfl, HA, HJ1, BK166, HB⟩ := hcut
  cases kq with
  | zero => exact absurd HA.out (by simp [tree_Good.j0])
  | succ kj1 =>
   have H := HA.out
   clear HA
   simp only [tree_Good.j0] at H
   by_cases c11 : x12_1 = true
   ·subst c11
    have H1 : (some false) = some r := by rw [if_pos rfl] at H; exact H
    clear H
    have H := H1
    clear H1
    obtain rfl := Option.some.inj H
    go_wp2
    go_ret
    exact ⟨by first | rfl | (simp [errW_none, errW_some] <;> rfl) | (simp [*, errW_none, errW_some] <;> rfl), by repeat (first | (with_reducible first | exact HB.out | apply below_alloc | apply pw_below_drewN | apply below_drew1 | refine below_set ?_ GE166.out) | exact HB.out)⟩
   ·replace c11 := Bool.eq_false_iff.mpr c11
    subst c11
    have H1 : (if a0_1 = 1 then (some (a0_2.toList == ([] : List UInt8))) else (if a0_1 = 2 then (tree_Good.j1 kj1 a0_1 (a0_1 == 2) a0_0 a0_1 a0_2) else (tree_Good.j1 kj1 a0_1 (a0_1 == 3) a0_0 a0_1 a0_2))) = some r := by rw [if_neg (show ¬ (false = true) by decide)] at H; exact H
    clear H
    have H := H1
    clear H1
    by_cases c12 : a0_1 = 1
    ·rw [if_pos c12] at H
     have c12b0 : (a0_1 == 1) = true := beq_iff_eq.mpr c12
     have c12b1 : (a0_1 != 1) = false := bne_eq_false_iff_eq.mpr c12
     clear c12
     obtain rfl := Option.some.inj H
     have hcz13_0 : wc.cell? ⟨gb166, 0, none⟩ = some (.string a0_0) := (blk_cell BK166.out 0).trans rfl
     have hcz13_1 : wc.cell? ⟨gb166, 1, none⟩ = some (.int .i64 a0_1) := (blk_cell BK166.out 1).trans rfl
     have hcz13_2 : wc.cell? ⟨gb166, 2, none⟩ = some (.string a0_2) := (blk_cell BK166.out 2).trans rfl
     have hfz13_0 := blk_frozen BK166.out 0
     have hfz13_1 := blk_frozen BK166.out 1
     have hfz13_2 := blk_frozen BK166.out 2
     go_wp2
     go_ret
     exact ⟨by first | rfl | (simp [errW_none, errW_some] <;> rfl) | (simp [*, errW_none, errW_some] <;> rfl), by repeat (first | (with_reducible first | exact HB.out | apply below_alloc | apply pw_below_drewN | apply below_drew1 | refine below_set ?_ GE166.out) | exact HB.out)⟩
    ·rw [if_neg c12] at H
     have c12b0 : (a0_1 == 1) = false := beq_eq_false_iff_ne.mpr c12
     have c12b1 : (a0_1 != 1) = true := bne_iff_ne.mpr c12
     have HC14 := Aside0.mk H
     clear H
     have hcz15_0 : wc.cell? ⟨gb166, 0, none⟩ = some (.string a0_0) := (blk_cell BK166.out 0).trans rfl
     have hcz15_1 : wc.cell? ⟨gb166, 1, none⟩ = some (.int .i64 a0_1) := (blk_cell BK166.out 1).trans rfl
     have hcz15_2 : wc.cell? ⟨gb166, 2, none⟩ = some (.string a0_2) := (blk_cell BK166.out 2).trans rfl
     have hfz15_0 := blk_frozen BK166.out 0
     have hfz15_1 := blk_frozen BK166.out 1
     have hfz15_2 := blk_frozen BK166.out 2
     go_upto_if 20 with (fail)
     go_cut [20] (fun v20 wc => ∃ (kq : Nat) (x20_13 : Bool), v20 = .bool x20_13 ∧ Aside0 (tree_Good.j1 kq a0_1 x20_13 a0_0 a0_1 a0_2 = some r) ∧ Aside0 (kq ≤ kj1) ∧ Aside0 (wc.heap[gb166]? = some (.cells #[.string a0_0, .int .i64 a0_1, .string a0_2] 47 (0, 0))) ∧ Aside0 (Below w.heap.size w wc))
     case first =>
      have H := HC14.out
      clear HC14
      by_cases c16 : a0_1 = 2
      ·rw [if_pos c16] at H
       have c16b0 : (a0_1 == 2) = true := beq_iff_eq.mpr c16
       have c16b1 : (a0_1 != 2) = false := bne_eq_false_iff_eq.mpr c16
       clear c16
       (first | rw [c16b0] | (simp only [i64_w, i32_w]; rw [c16b0]) | skip)
       have H' := Aside0.mk H
       clear H
       go_wp2
       go_meet
       case rel => exact ⟨_, ((a0_1 == 2)), (by first | rfl | (simp; done) | (simp [*]; done) | exact congrArg Value.bool (nil_ne _) | exact congrArg Value.bool (nil_eq _) | exact congrArg Value.bool (nil_ne' _)), H', ⟨by have := HJ1.out; first | omega | exact Nat.le_refl _⟩, ⟨by (with_reducible repeat (first | refine blk_drewN ?_ _ | refine blk_drew ?_ | refine blk_alloc ?_ _)); exact BK166.out⟩, ⟨by repeat (first | (with_reducible first | exact HB.out | apply below_alloc | apply pw_below_drewN | apply below_drew1 | refine below_set ?_ GE166.out) | exact HB.out)⟩⟩
      ·rw [if_neg c16] at H
       have c16b0 : (a0_1 == 2) = false := beq_eq_false_iff_ne.mpr c16
       have c16b1 : (a0_1 != 2) = true := bne_iff_ne.mpr c16
       (first | rw [c16b0] | (simp only [i64_w, i32_w]; rw [c16b0]) | skip)
       have H' := Aside0.mk H
       clear H
       go_wp2
       go_meet
       case rel => exact ⟨_, ((a0_1 == 3)), (by first | rfl | (simp; done) | (simp [*]; done) | exact congrArg Value.bool (nil_ne _) | exact congrArg Value.bool (nil_eq _) | exact congrArg Value.bool (nil_ne' _)), H', ⟨by have := HJ1.out; first | omega | exact Nat.le_refl _⟩, ⟨by (with_reducible repeat (first | refine blk_drewN ?_ _ | refine blk_drew ?_ | refine blk_alloc ?_ _)); exact BK166.out⟩, ⟨by repeat (first | (with_reducible first | exact HB.out | apply below_alloc | apply pw_below_drewN | apply below_drew1 | refine below_set ?_ GE166.out) | exact HB.out)⟩⟩
     case rest =>
      clear HC14
      try clear c1
      try clear p2
      try clear c5
      try clear c7
      try clear c11
      try clear c12
      try clear c12b0
      try clear c12b1
      try clear c16
      try clear c16b0
      try clear c16b1
      try clear hcz13_0
      try clear hcz13_1
      try clear hcz13_2
      try clear hcz15_0
      try clear hcz15_1
      try clear hcz15_2
      try clear hcz6_0
      try clear hcz6_1
      try clear hcz6_2
      try clear hcz8_0
      try clear hcz8_1
      try clear hcz8_2
      try clear hcz9_0
      try clear hcz9_1
      try clear hcz9_2
      try clear hfz13_0
      try clear hfz13_1
      try clear hfz13_2
      try clear hfz15_0
      try clear hfz15_1
      try clear hfz15_2
      try clear hfz6_0
      try clear hfz6_1
      try clear hfz6_2
      try clear hfz8_0
      try clear hfz8_1
      try clear hfz8_2
      try clear hfz9_0
      try clear hfz9_1
      try clear hfz9_2
      try clear p2
      obtain ⟨kq, x20_13, rfl, HA, HJ13, BK166, HB⟩ := hcut
      cases kq with
      | zero => exact absurd HA.out (by simp [tree_Good.j1])
      | succ kj13 =>
       have H := HA.out
       clear HA
       simp only [tree_Good.j1] at H
       by_cases c17 : x20_13 = true
       ·subst c17
        have H1 : (some true) = some r := by rw [if_pos rfl] at H; exact H
        clear H
        have H := H1
        clear H1
        obtain rfl := Option.some.inj H
        go_wp2
        go_ret
        exact ⟨by first | rfl | (simp [errW_none, errW_some] <;> rfl) | (simp [*, errW_none, errW_some] <;> rfl), by repeat (first | (with_reducible first | exact HB.out | apply below_alloc | apply pw_below_drewN | apply below_drew1 | refine below_set ?_ GE166.out) | exact HB.out)⟩
       ·replace c17 := Bool.eq_false_iff.mpr c17
        subst c17
        have H1 : (if a0_1 = 4 then (if a0_2.toList = ([] : List UInt8) then (some false) else ((strings_IndexByte.f a0_2 0).bind fun t168 => (some (decide (t168 < 0))))) else (some false)) = some r := by rw [if_neg (show ¬ (false = true) by decide)] at H; exact H
        clear H
        have H := H1
        clear H1
        by_cases c18 : a0_1 = 4
        ·rw [if_pos c18] at H
         have c18b0 : (a0_1 == 4) = true := beq_iff_eq.mpr c18
         have c18b1 : (a0_1 != 4) = false := bne_eq_false_iff_eq.mpr c18
         clear c18
         by_cases c19 : a0_2.toList = ([] : List UInt8)
         ·rw [if_pos c19] at H
          have c19b0 : (a0_2.toList == ([] : List UInt8)) = true := beq_iff_eq.mpr c19
          have c19b1 : (a0_2.toList != ([] : List UInt8)) = false := bne_eq_false_iff_eq.mpr c19
          clear c19
          obtain rfl := Option.some.inj H
          have hcz20_0 : wc.cell? ⟨gb166, 0, none⟩ = some (.string a0_0) := (blk_cell BK166.out 0).trans rfl
          have hcz20_1 : wc.cell? ⟨gb166, 1, none⟩ = some (.int .i64 a0_1) := (blk_cell BK166.out 1).trans rfl
          have hcz20_2 : wc.cell? ⟨gb166, 2, none⟩ = some (.string a0_2) := (blk_cell BK166.out 2).trans rfl
          have hfz20_0 := blk_frozen BK166.out 0
          have hfz20_1 := blk_frozen BK166.out 1
          have hfz20_2 := blk_frozen BK166.out 2
          go_wp2
          go_ret
          exact ⟨by first | rfl | (simp [errW_none, errW_some] <;> rfl) | (simp [*, errW_none, errW_some] <;> rfl), by repeat (first | (with_reducible first | exact HB.out | apply below_alloc | apply pw_below_drewN | apply below_drew1 | refine below_set ?_ GE166.out) | exact HB.out)⟩
         ·rw [if_neg c19] at H
          have c19b0 : (a0_2.toList == ([] : List UInt8)) = false := beq_eq_false_iff_ne.mpr c19
          have c19b1 : (a0_2.toList != ([] : List UInt8)) = true := bne_iff_ne.mpr c19
          replace H := Option.bind_eq_some_iff.mp H
          obtain ⟨t168, A210, H⟩ := H
          replace H : (some (decide (t168 < 0))) = some r := H
          have A21 := Aside0.mk A210
          clear A210
          obtain rfl := Option.some.inj H
          have hcz22_0 : wc.cell? ⟨gb166, 0, none⟩ = some (.string a0_0) := (blk_cell BK166.out 0).trans rfl
          have hcz22_1 : wc.cell? ⟨gb166, 1, none⟩ = some (.int .i64 a0_1) := (blk_cell BK166.out 1).trans rfl
          have hcz22_2 : wc.cell? ⟨gb166, 2, none⟩ = some (.string a0_2) := (blk_cell BK166.out 2).trans rfl
          have hfz22_0 := blk_frozen BK166.out 0
          have hfz22_1 := blk_frozen BK166.out 1
          have hfz22_2 := blk_frozen BK166.out 2
          go_wp2_with (first | (go_at_call 77; (with_reducible refine (strings_IndexByte.calls a0_2 0 t168 _ A21.out).mono ?_); rintro e w' ⟨rfl, ⟨nd, rfl⟩⟩))
          go_ret
          exact ⟨by first | rfl | (simp [errW_none, errW_some] <;> rfl) | (simp [*, errW_none, errW_some] <;> rfl), by repeat (first | (with_reducible first | exact HB.out | apply below_alloc | apply pw_below_drewN | apply below_drew1 | refine below_set ?_ GE166.out) | exact HB.out)⟩
        ·rw [if_neg c18] at H
         have c18b0 : (a0_1 == 4) = false := beq_eq_false_iff_ne.mpr c18
         have c18b1 : (a0_1 != 4) = true := bne_iff_ne.mpr c18
         obtain rfl := Option.some.inj H
         go_wp2
         go_ret
         exact ⟨by first | rfl | (simp [errW_none, errW_some] <;> rfl) | (simp [*, errW_none, errW_some] <;> rfl), by repeat (first | (with_reducible first | exact HB.out | apply below_alloc | apply pw_below_drewN | apply below_drew1 | refine below_set ?_ GE166.out) | exact HB.out)⟩
end Go.Proofs.YtdijnmcfpbceaaaGreatDoor.P

namespace Go.Proofs.YtdijnmcfpbceaaaGreatDoor.X
open Go.Maps Go.WideMaps Go.RowKit Go.Proofs.YtdijnmcfpbceaaaGreatDoorW.PrintWords Go.Proofs.YtdijnmcfpbceaaaGreatDoorW.PrintLast Go.Proofs.YtdijnmcfpbceaaaGreatDoorW.PrintMore Go.Proofs.YtdijnmcfpbceaaaGreatDoor.P
set_option linter.unusedVariables false
set_option linter.unusedSimpArgs false
theorem good_eq (n : S47) : tree_Good.f 3 n.f0 n.f1 n.f2 = some (goodN n) := by
  unfold tree_Good.f path_May.f goodN
  simp only [Option.bind_some, tree_Good.j0, tree_Good.j1, strings_IndexByte.f]
  have i2 := indexByte_none n.f2.data.toList 0
  rw [show ((0 : Int).toNat.toUInt8) = (0 : UInt8) from rfl]
  have hb : (n.f2.toList == []) = decide (n.f2.size = 0) := by
    rw [Bool.eq_iff_iff, beq_iff_eq, decide_eq_true_eq]
    exact toList_nil _
  rw [hb]
  simp only [toList_nil, i2]
  cases hp : pathB n.f0.data.toList with
  | false => simp
  | true =>
    by_cases h4 : n.f2.size ≤ 400
    · have h4' : ¬ ((n.f2.size : Int) > 400) := by omega
      rw [decide_eq_false h4', decide_eq_true h4]
      simp only [if_pos trivial, Bool.true_and, if_neg (show ¬ (false = true) from by simp)]
      by_cases k1 : n.f1 = 1
      · simp [k1]
      · by_cases k2 : n.f1 = 2
        · simp [k2]
        · by_cases k3 : n.f1 = 3
          · simp [k3]
          · by_cases k4 : n.f1 = 4
            · by_cases k5 : n.f2.size = 0
              · simp [k4, k5]
              · simp [k4, k5]
            · simp [k1, k2, k3, k4]
    · have h4' : ((n.f2.size : Int) > 400) := by omega
      simp [h4, h4']
theorem keyS : Maps.Keyed Tryz.prog 9 := Maps.string_keyed Tryz.underlying9
set_option maxRecDepth 100000 in
theorem zeroB (w : World) : (zeroValue 4).run Tryz.prog w = .ok (.bool false) w := by kernel_rfl
set_option maxRecDepth 100000 in
theorem plainElem_bool_inv {v : Value} {z : DataW Unit × List MemPlace} (h : plainElem Tryz.prog 4 v = some z) : ∃ x, v = .bool x ∧ z = (.lit (.bool x), []) := by
  have hu := Tryz.underlying4
  unfold plainElem at h
  generalize Tryz.prog.underlying 4 = u at h hu
  subst hu
  cases v <;> simp at h
  exact ⟨_, rfl, h.symm⟩
theorem look_bool {w : World} {Bm m : Nat} {D : DataW Unit} (h : w.ownsMap Tryz.prog 9 (plainElem Tryz.prog 4) Bm m D) (p : ByteArray) (hp : p.size ≤ maxLen) :
    ∃ b, (Instr.lookup 88 (.map (some Bm)) (.string p) false).run Tryz.prog w = .ok (.bool b) w ∧ D.atKey (.string p.data.toList) (.lit (.bool false)) = .lit (.bool b) := by
  obtain ⟨v, ps, hrun, hv⟩ := h.lookup keyS Tryz.underlying88 (zeroB w) (plainElem_bool Tryz.underlying4 false) (key := .string p) (kl := .string p.data.toList) (keyOf_string_mk Tryz.underlying9 hp)
  obtain ⟨x, rfl, hx⟩ := plainElem_bool_inv hv
  injection hx with h1 h2
  exact ⟨x, hrun, h1⟩
theorem ownsMap_below {w w1 : World} {Bm m : Nat} {D : DataW Unit} (h : w.ownsMap Tryz.prog 9 (plainElem Tryz.prog 4) Bm m D) (hb : Below w.heap.size w w1) : w1.ownsMap Tryz.prog 9 (plainElem Tryz.prog 4) Bm m D := by
  have hl := h.lt
  obtain ⟨es, clock, hg, F, hs, hD⟩ := h
  exact ⟨es, clock, (hb.block Bm hl).trans hg, F, hs, hD⟩
theorem look_dir {w : World} {Bm m : Nat} {D : DataW Unit} {t : List S47} (h : w.ownsMap Tryz.prog 9 (plainElem Tryz.prog 4) Bm m D) (hD : ∀ p : ByteArray, D.atKey (.string p.data.toList) (.lit (.bool false)) = .lit (.bool (dirAt t p))) (p : ByteArray) (hp : p.size ≤ maxLen) :
    (Instr.lookup 88 (.map (some Bm)) (.string p) false).run Tryz.prog w = .ok (.bool (dirAt t p)) w := by
  obtain ⟨b, hrun, hb⟩ := look_bool h p hp
  have hb : dirAt t p = b := Lit.bool.inj (DataW.lit.inj ((hD p).symm.trans hb))
  rw [hb]
  exact hrun
theorem rdN_get (l : List S47) (i : Nat) (h : i < l.length) : rd_T47 l (i : Int) = l[i] := by
  simp [rd_T47, List.getD_eq_getElem?_getD, h]
theorem path_small {p : ByteArray} (h : pathB p.data.toList = true) : p.size ≤ 200 := by
  unfold pathB at h
  rw [Bool.or_eq_true, Bool.and_eq_true, Bool.and_eq_true, decide_eq_true_eq, decide_eq_true_eq, data_length] at h
  rcases h with h | h
  · have : p.size = 0 := by rw [← data_length, h]; rfl
    omega
  · exact h.1.1
theorem up_small {p : ByteArray} (h : p.size ≤ 200) : (upS p).size ≤ 200 := by
  rw [up_last, ByteArray.size_extract]
  omega
set_option maxHeartbeats 4000000 in
theorem follows_calls (n : S47) (A0 : Option Addr) (c0 : Nat) (t : List S47) (Bm m : Nat) (D : DataW Unit) (w : World) (hT : Aside0 (Tabs w)) (hC : Kd.C k47 w A0 t.length t) (hc : t.length ≤ c0) (hn : t.length ≤ 100000)
    (hM : w.ownsMap Tryz.prog 9 (plainElem Tryz.prog 4) Bm m D) (hD : ∀ p : ByteArray, D.atKey (.string p.data.toList) (.lit (.bool false)) = .lit (.bool (dirAt t p))) :
    Calls Tryz.prog 57 #[.agg #[.string n.f0, .int .i64 n.f1, .string n.f2], .slice A0 t.length c0, .map (some Bm)] w fun e w' => e = .returned (.bool (followsN t n)) ∧ Below w.heap.size w w' := by
  have X := Aside0.mk hC
  have HM := Aside0.mk hM
  have HD := Aside0.mk hD
  clear hC hM hD
  go_enter Tryz.func57, Tryz.ntmps57
  by_cases h0 : t.length = 0
  · have ht : t = [] := List.eq_nil_of_length_eq_zero h0
    have h00 : ((t.length : Int) == 0) = true := by rw [h0]; rfl
    obtain ⟨b0, hb0⟩ : ∃ b, (n.f0.toList == []) = b := ⟨_, rfl⟩
    have HF := Aside0.mk (show followsN t n = b0 from by
      rw [ht]
      unfold followsN
      show decide (n.f0.size = 0) = b0
      rw [← hb0, Bool.eq_iff_iff, beq_iff_eq, decide_eq_true_eq]
      exact (toList_nil _).symm)
    clear ht
    go_wp2_with fail
    go_ret
    rw [HF.out]
    exact ⟨rfl, below_alloc (Below.refl _ _) _⟩
  · have h00 : ((t.length : Int) == 0) = false := beq_eq_false_iff_ne.2 (by omega)
    go_wp2_with fail
    refine (parent_calls n.f0 _ ⟨Tabs.below hT.out (below_alloc (Below.refl _ _) _)⟩).mono ?_
    rintro e w1 ⟨rfl, hB⟩
    have HB := Aside0.mk (below_step (below_alloc (Below.refl w.heap.size w) (.cells #[.string n.f0, .int .i64 n.f1, .string n.f2] 47)) hB)
    have HZ := Aside0.mk (blk_below (blk_new w (.cells #[.string n.f0, .int .i64 n.f1, .string n.f2] 47)) hB)
    clear hB
    have hz0 : w1.cell? ⟨w.heap.size, 0, none⟩ = some (.string n.f0) := (blk_cell HZ.out 0).trans rfl
    obtain ⟨ok, hok⟩ : ∃ b, (parentR n.f0).2 = b := ⟨_, rfl⟩
    rw [hok]
    cases ok with
    | false =>
      have HF := Aside0.mk (show followsN t n = false from by
        have hx : ¬ (n.f0.size ≠ 0 ∧ pathB n.f0.data.toList = true) := fun hx => by
          unfold parentR at hok
          rw [if_neg (by rw [not_or]; exact ⟨hx.1, by rw [hx.2]; simp⟩)] at hok
          cases hok
        unfold followsN
        cases hl : t.getLast? with
        | none => exact absurd (List.getLast?_eq_none_iff.1 hl) (fun e => h0 (by rw [e]; rfl))
        | some l =>
          show (decide (n.f0.size ≠ 0) && pathB n.f0.data.toList && ltB l.f0 n.f0 && dirAt t (upS n.f0)) = false
          cases h1 : pathB n.f0.data.toList with
          | false => simp
          | true =>
            have : n.f0.size = 0 := Classical.byContradiction fun e => hx ⟨e, h1⟩
            simp [this])
      go_wp2_with fail
      go_quiet (fail)
      go_wp2_with fail
      go_ret
      rw [HF.out]
      exact ⟨rfl, pw_below_drewN HB.out _⟩
    | true =>
      have HU := Aside0.mk (show (parentR n.f0).1 = upS n.f0 ∧ n.f0.size ≠ 0 ∧ pathB n.f0.data.toList = true from by
        unfold parentR at hok ⊢
        split at hok
        · cases hok
        · rename_i h
          rw [if_neg h]
          rw [not_or] at h
          exact ⟨rfl, h.1, by simpa using h.2⟩)
      rw [HU.out.1]
      clear hok
      obtain ⟨m1, hm1⟩ : ∃ k, t.length = k + 1 := ⟨t.length - 1, by omega⟩
      obtain ⟨ad, rfl, z0, z1, z2⟩ := at_T47 (Kd.C_below X.out HB.out) (m1 : Int) (by omega) (by omega)
      have hsub : (t.length : Int) - 1 = (m1 : Int) := by omega
      have hi0 : 0 ≤ (m1 : Int) := by omega
      have hic : decide ((m1 : Int) < (t.length : Int)) = true := decide_eq_true (by omega)
      simp only [Int.toNat_natCast] at z0 z1 z2
      have hlast : t.getLast? = some (rd_T47 t (m1 : Int)) := by
        rw [rdN_get t m1 (by omega), List.getLast?_eq_getElem?, show t.length - 1 = m1 by omega, List.getElem?_eq_getElem (by omega)]
      obtain ⟨bd, hbd⟩ : ∃ b, dirAt t (upS n.f0) = b := ⟨_, rfl⟩
      have HF := Aside0.mk (show followsN t n = (ltB (rd_T47 t (m1 : Int)).f0 n.f0 && bd) from by
        unfold followsN
        rw [hlast, ← hbd]
        show (decide (n.f0.size ≠ 0) && pathB n.f0.data.toList && ltB _ n.f0 && dirAt t (upS n.f0)) = _
        rw [decide_eq_true HU.out.2.1, HU.out.2.2, Bool.true_and, Bool.true_and])
      have HDb := Aside0.mk hbd
      clear hlast z1 z2 hbd hm1
      generalize rd_T47 t (m1 : Int) = l at *
      obtain ⟨bl, hbl⟩ : ∃ b, Op.bytesLess l.f0.toList n.f0.toList = b := ⟨_, rfl⟩
      have HF2 := Aside0.mk (show followsN t n = (bl && bd) from by rw [HF.out, ← hbl]; rfl)
      have hrq : ∀ k, (Instr.lookup 88 (.map (some Bm)) (.string (upS n.f0)) false).run Tryz.prog (w1.drewN k) = .ok (.bool bd) (w1.drewN k) := fun k => by
        rw [← HDb.out]
        exact look_dir (ownsMap_below HM.out (pw_below_drewN HB.out k)) HD.out _ (Nat.le_trans (up_small (path_small HU.out.2.2)) (by decide))
      cases bl with
      | false =>
        go_wp2_with fail
        go_quiet (fail)
        go_wp2_with fail
        go_ret
        rw [HF2.out]
        exact ⟨rfl, pw_below_drewN HB.out _⟩
      | true =>
        go_wp2_with fail
        go_quiet (fail)
        go_wp2_with fail
        go_ret
        rw [HF2.out]
        exact ⟨rfl, pw_below_drewN HB.out _⟩
end Go.Proofs.YtdijnmcfpbceaaaGreatDoor.X

namespace Go.Proofs.YtdijnmcfpbceaaaGreatDoor.X
open Go.Maps Go.WideMaps Go.RowKit Go.Proofs.YtdijnmcfpbceaaaGreatDoorW.PrintWords Go.Proofs.YtdijnmcfpbceaaaGreatDoorW.PrintLast Go.Proofs.YtdijnmcfpbceaaaGreatDoorW.PrintMore Go.Proofs.YtdijnmcfpbceaaaGreatDoor.P
set_option linter.unusedVariables false
set_option linter.unusedSimpArgs false
theorem ris_step {l : List S47} {x : S47} (h : risN l) (hf : followsN l x = true) : risN (l ++ [x]) ∧ ∀ y ∈ l, ltB y.f0 x.f0 = true := by
  have hall : ∀ y ∈ l, ltB y.f0 x.f0 = true := by
    unfold followsN at hf
    cases hl : l.getLast? with
    | none =>
      rw [List.getLast?_eq_none_iff.1 hl]
      intro y hy
      cases hy
    | some z =>
      rw [hl] at hf
      have hz : ltB z.f0 x.f0 = true := by
        have hf : (decide (x.f0.size ≠ 0) && pathB x.f0.data.toList && ltB z.f0 x.f0 && dirAt l (upS x.f0)) = true := hf
        rw [Bool.and_eq_true, Bool.and_eq_true] at hf
        exact hf.1.2
      obtain ⟨ys, rfl⟩ := List.getLast?_eq_some_iff.1 hl
      intro y hy
      rcases List.mem_append.1 hy with h1 | h1
      · exact ltB_trans ((List.pairwise_append.1 h).2.2 y h1 z (by simp)) hz
      · rw [List.mem_singleton] at h1
        rw [h1]
        exact hz
  refine ⟨?_, hall⟩
  unfold risN
  rw [List.pairwise_append]
  refine ⟨h, List.pairwise_singleton _ _, fun a ha b hb => ?_⟩
  rw [List.mem_singleton] at hb
  rw [hb]
  exact hall a ha
theorem dirAt_step (l : List S47) (x : S47) (p : ByteArray) : dirAt (l ++ [x]) p = (dirAt l p || (decide (x.f0 = p) && decide (x.f1 = 1))) := by
  unfold dirAt
  rw [List.any_append]
  simp
theorem dirAt_none {l : List S47} {p : ByteArray} (h : ∀ y ∈ l, ltB y.f0 p = true) : dirAt l p = false := by
  unfold dirAt
  rw [List.any_eq_false]
  intro y hy
  have h1 := h y hy
  have : y.f0 ≠ p := fun e => by
    rw [e, ltB_irrefl] at h1
    cases h1
  simp [this]
set_option maxHeartbeats 8000000 in
set_option maxRecDepth 100000 in
theorem bad_calls (A0 : Option Addr) (c0 : Nat) (t : List S47) (w : World) (hT : Aside0 (Tabs w)) (hC : Kd.C k47 w A0 t.length t) (hc : t.length ≤ c0) (hn : t.length ≤ 100000) :
    Calls Tryz.prog 43 #[.slice A0 t.length c0] w fun e w' => ∃ r : Int, e = .returned (.int .i64 r) ∧ decide (r < 0) = treeB t ∧ Below w.heap.size w w' := by
  have X := Aside0.mk hC
  clear hC
  go_enter Tryz.func43, Tryz.ntmps43
  by_cases h0 : t.length = 0
  · have ht : t = [] := List.eq_nil_of_length_eq_zero h0
    have h00 : ((t.length : Int) == 0) = true := by rw [h0]; rfl
    have HF := Aside0.mk (show treeB t = false from by rw [ht]; rfl)
    clear ht
    go_wp2_with fail
    go_ret
    exact ⟨0, rfl, by rw [HF.out]; rfl, Below.refl _ _⟩
  · have h00 : ((t.length : Int) == 0) = false := beq_eq_false_iff_ne.2 (by omega)
    have hmm := @run_makeMap Tryz.prog
    have HM0 := Aside0.mk (show (w.alloc (.map #[] 0)).ownsMap Tryz.prog 9 (plainElem Tryz.prog 4) w.heap.size 0 (.map [] : DataW Unit) from World.ownsMap_made w Tryz.prog 9 _)
    have HB0 := Aside0.mk (show Below w.heap.size w (w.alloc (.map #[] 0)) from below_alloc (Below.refl _ _) _)
    go_wp2_with fail
    clear hmm
    generalize w.alloc (.map #[] 0) = w0 at *
    go_loopw [12] (fun v12 wr => ∃ (i : Nat) (D : DataW Unit), v12 = .int .i64 i ∧ i ≤ t.length ∧ Aside0 (wr.ownsMap Tryz.prog 9 (plainElem Tryz.prog 4) w.heap.size i D) ∧ Aside0 (∀ p : ByteArray, D.atKey (.string p.data.toList) (.lit (.bool false)) = .lit (.bool (dirAt (t.take i) p))) ∧ Aside0 (risN (t.take i)) ∧ Aside0 (treeB t = treeR (t.take i) (t.drop i)) ∧ Aside0 (Below w.heap.size w wr)) (fun a _ => t.length - (intOf a).toNat)
    case atStart => exact ⟨0, _, rfl, by omega, HM0, ⟨fun p => rfl⟩, ⟨List.Pairwise.nil⟩, ⟨by unfold treeB; cases t with | nil => exact absurd rfl h0 | cons a l => simp⟩, HB0⟩
    case round =>
      clear HM0 HB0
      obtain ⟨i, D, rfl, hi, HM, HD, HR, HT, HB⟩ := hrel
      by_cases hil : i < t.length
      · have hic : decide ((i : Int) < (t.length : Int)) = true := decide_eq_true (by omega)
        have hi0 : 0 ≤ (i : Int) := by omega
        obtain ⟨ad, rfl, z0, z1, z2⟩ := at_T47 (Kd.C_below X.out HB.out) (i : Int) (by omega) (by omega)
        simp only [Int.toNat_natCast] at z0 z1 z2
        have HX := Aside0.mk (rdN_get t i hil)
        generalize rd_T47 t (i : Int) = x at *
        have HLT := Aside0.mk HM.out.lt
        go_wp2_with fail
        have HN := Aside0.mk (blk_new wr (.cells #[.string x.f0, .int .i64 x.f1, .string x.f2] 47))
        have HW6 := Aside0.mk (below_alloc (Below.refl wr.heap.size wr) (.cells #[.string x.f0, .int .i64 x.f1, .string x.f2] 47))
        have HB6 := Aside0.mk (below_step HB.out HW6.out)
        have HM6 := Aside0.mk (ownsMap_below HM.out HW6.out)
        have HTR := Aside0.mk (HT.out.trans (treeR_step t i hil))
        clear HB HM HW6 HT
        generalize wr.alloc (.cells #[.string x.f0, .int .i64 x.f1, .string x.f2] 47) = W6 at *
        generalize wr.heap.size = gn at *
        rw [← HX.out] at HTR
        obtain ⟨b400, h400⟩ : ∃ b, decide ((400 : Int) ≤ (i : Int)) = b := ⟨_, rfl⟩
        obtain ⟨bg, hbg⟩ : ∃ b, goodN x = b := ⟨_, rfl⟩
        obtain ⟨bf, hbf⟩ : ∃ b, followsN (t.take i) x = b := ⟨_, rfl⟩
        have HGood := Aside0.mk (show ∀ W, Below W6.heap.size W6 W → Calls Tryz.prog 56 #[.agg #[.string x.f0, .int .i64 x.f1, .string x.f2]] W (fun e w' => e = .returned (.bool bg) ∧ Below W.heap.size W w') from fun W hW => tree_Good.calls 3 x.f0 x.f1 x.f2 bg W ⟨Tabs.below hT.out (below_step HB6.out hW)⟩ (by rw [good_eq, hbg]))
        have hlen : (t.take i).length = i := by rw [List.length_take]; omega
        have HFol := Aside0.mk (show ∀ W, Below W6.heap.size W6 W → Calls Tryz.prog 57 #[.agg #[.string x.f0, .int .i64 x.f1, .string x.f2], .slice (some ad) i c0, .map (some w.heap.size)] W (fun e w' => e = .returned (.bool bf) ∧ Below W.heap.size W w') from fun W hW => by
          have hcall := follows_calls x (some ad) c0 (t.take i) w.heap.size i D W ⟨Tabs.below hT.out (below_step HB6.out hW)⟩ (Kd.C_take (Kd.C_below X.out (below_step HB6.out hW)) (by omega)) (by omega) (by omega) (ownsMap_below HM6.out hW) HD.out
          rw [hlen, hbf] at hcall
          exact hcall)
        rw [hbg, hbf] at HTR
        have HFx := Aside0.mk hbf
        have HGx := Aside0.mk hbg
        clear hbg hbf hlen
        have hicn : i ≤ c0 := by omega
        have hicc : decide ((i : Int) ≤ (c0 : Int)) = true := decide_eq_true (by omega)
        cases b400 with
        | true =>
          have HF := Aside0.mk (show treeB t = false from by
            have : ¬ i < 400 := by have := of_decide_eq_true h400; omega
            rw [HTR.out, decide_eq_false this]
            rfl)
          go_quiet (fail)
          go_wp2_with fail
          go_ret
          exact ⟨i, rfl, by rw [HF.out]; exact decide_eq_false (by omega), pw_below_drewN HB6.out _⟩
        | false =>
          cases bg with
          | false =>
            have HF := Aside0.mk (show treeB t = false from by
              rw [HTR.out, Bool.and_false, Bool.false_and, Bool.false_and])
            refine start_ (n := 16) (S := fun w' => Below W6.heap.size W6 w') (ds := []) (bmG 16 0) (by kernel_rfl) rfl (by kernel_rfl) (below_drew1 (Below.refl W6.heap.size W6)) (fun hS => ?_)
            generalize W6.drew = wd at hS ⊢
            refine pure_ (i := 0) (N := some 17) (v := ?_) (a' := ?_) (bmG 16 1) rfl rfl (by kernel_rfl) (fun _ _ _ h => h) (Or.inl ⟨by rfl, ?_⟩) ?_ ?_
            rotate_left
            · intro w'
              go_simp
              (try simp only [h400])
              with_reducible rfl
            rotate_left
            · simp only [Act.put, List.setIfInBounds_toArray, List.set_cons_zero, List.set_cons_succ, i64_w, i32_w]
              rfl
            refine pure_ (i := 1) (N := some 18) (v := .bool false) (a' := ?_) (bmG 16 3) rfl rfl (by kernel_rfl) (fun _ _ _ h => h) (Or.inl ⟨by rfl, ?_⟩) ?_ ?_
            · intro w'
              go_simp
              (try simp only [h400])
              (try rfl)
            rotate_left
            · simp only [Act.put, List.setIfInBounds_toArray, List.set_cons_zero, List.set_cons_succ, i64_w, i32_w]
              rfl
            refine pure_ (i := 2) (N := some 19) (v := ?_) (a' := ?_) (bmG 16 7) rfl rfl (by kernel_rfl) (fun _ _ _ h => h) (Or.inl ⟨by rfl, ?_⟩) ?_ ?_
            rotate_left
            · intro w'
              go_simp
              (try simp only [h400])
              with_reducible rfl
            rotate_left
            · simp only [Act.put, List.setIfInBounds_toArray, List.set_cons_zero, List.set_cons_succ, i64_w, i32_w]
              rfl
            refine take_ (i := 3) (N := some 20) (v := ?_) (a' := ?_) (bmG 16 15) rfl rfl (by kernel_rfl) (fun _ _ _ h => h) (Or.inl ⟨by rfl, ?_⟩) hS ?_ ?_
            rotate_left
            · intro w' hS
              have s0 := (show w'.cell? ⟨gn, 0, none⟩ = some (.string x.f0) from (blk_cell (blk_below HN.out hS) 0).trans rfl)
              have s1 := (show w'.cell? ⟨gn, 1, none⟩ = some (.int .i64 x.f1) from (blk_cell (blk_below HN.out hS) 1).trans rfl)
              have s2 := (show w'.cell? ⟨gn, 2, none⟩ = some (.string x.f2) from (blk_cell (blk_below HN.out hS) 2).trans rfl)
              go_simp
              with_reducible rfl
            rotate_left
            · simp only [Act.put, List.setIfInBounds_toArray, List.set_cons_zero, List.set_cons_succ, i64_w, i32_w]
              rfl
            refine one_ (i := 4) (N := some 21) (bmG 16 31) rfl rfl (by kernel_rfl) (by decide) (fun Kz hKz => ?_)
            refine goes_ Tryz.func56 (by kernel_rfl) rfl #[.agg #[.string x.f0, .int .i64 x.f1, .string x.f2]] (by rfl) rfl rfl (by (try simp only [List.map_toArray, List.map_cons, List.map_nil]); first | done | rfl) ?_
            refine (HGood.out _ hS).mono ?_
            rintro e wc ⟨rfl, hb⟩
            refine ⟨_, rfl, ?_⟩
            refine hKz.out _ _ (below_step hS hb) (fun hS => ?_)
            clear hKz Kz
            refine norm_ (a' := ?_) ?_ ?_
            rotate_left
            · show Act.put _ (some 21) _ = _
              simp only [Act.put, List.setIfInBounds_toArray, List.set_cons_zero, List.set_cons_succ, i64_w, i32_w]
              rfl
            refine pure_ (i := 5) (N := some 22) (v := ?_) (a' := ?_) (bmG 16 63) rfl rfl (by kernel_rfl) (fun _ _ _ h => h) (Or.inl ⟨by rfl, ?_⟩) ?_ ?_
            rotate_left
            · intro w'
              go_simp
              (try simp only [h400])
              with_reducible rfl
            rotate_left
            · simp only [Act.put, List.setIfInBounds_toArray, List.set_cons_zero, List.set_cons_succ, i64_w, i32_w]
              rfl
            refine pure_ (i := 6) (N := some 23) (v := ?_) (a' := ?_) (bmG 16 127) rfl rfl (by kernel_rfl) (fun _ _ _ h => h) (Or.inl ⟨by rfl, ?_⟩) ?_ ?_
            rotate_left
            · intro w'
              go_simp
              (try simp only [h400])
              with_reducible rfl
            rotate_left
            · simp only [Act.put, List.setIfInBounds_toArray, List.set_cons_zero, List.set_cons_succ, i64_w, i32_w]
              rfl
            refine pure_ (i := 7) (N := some 24) (v := ?_) (a' := ?_) (bmG 16 255) rfl rfl (by kernel_rfl) (fun _ _ _ h => h) (Or.inl ⟨by rfl, ?_⟩) ?_ ?_
            rotate_left
            · intro w'
              go_simp
              (try simp only [h400])
              with_reducible rfl
            rotate_left
            · simp only [Act.put, List.setIfInBounds_toArray, List.set_cons_zero, List.set_cons_succ, i64_w, i32_w]
              rfl
            refine pure_ (i := 8) (N := some 25) (v := undef) (a' := ?_) (bmG 16 511) rfl rfl (by kernel_rfl) (fun _ _ _ h => h) (Or.inr ⟨by rfl, rfl⟩) ?_ ?_
            rotate_left
            · simp only [Act.put, List.setIfInBounds_toArray, List.set_cons_zero, List.set_cons_succ, i64_w, i32_w]
              rfl
            refine pure_ (i := 9) (N := some 26) (v := undef) (a' := ?_) (bmG 16 1023) rfl rfl (by kernel_rfl) (fun _ _ _ h => h) (Or.inr ⟨by rfl, rfl⟩) ?_ ?_
            rotate_left
            · simp only [Act.put, List.setIfInBounds_toArray, List.set_cons_zero, List.set_cons_succ, i64_w, i32_w]
              rfl
            refine pure_ (i := 10) (N := some 27) (v := undef) (a' := ?_) (bmG 16 2047) rfl rfl (by kernel_rfl) (fun _ _ _ h => h) (Or.inr ⟨by rfl, rfl⟩) ?_ ?_
            rotate_left
            · simp only [Act.put, List.setIfInBounds_toArray, List.set_cons_zero, List.set_cons_succ, i64_w, i32_w]
              rfl
            refine pure_ (i := 11) (N := some 28) (v := undef) (a' := ?_) (bmG 16 4095) rfl rfl (by kernel_rfl) (fun _ _ _ h => h) (Or.inr ⟨by rfl, rfl⟩) ?_ ?_
            rotate_left
            · simp only [Act.put, List.setIfInBounds_toArray, List.set_cons_zero, List.set_cons_succ, i64_w, i32_w]
              rfl
            refine pure_ (i := 12) (N := some 29) (v := undef) (a' := ?_) (bmG 16 8191) rfl rfl (by kernel_rfl) (fun _ _ _ h => h) (Or.inr ⟨by rfl, rfl⟩) ?_ ?_
            rotate_left
            · simp only [Act.put, List.setIfInBounds_toArray, List.set_cons_zero, List.set_cons_succ, i64_w, i32_w]
              rfl
            refine pure_ (i := 13) (N := some 30) (v := undef) (a' := ?_) (bmG 16 16383) rfl rfl (by kernel_rfl) (fun _ _ _ h => h) (Or.inr ⟨by rfl, rfl⟩) ?_ ?_
            rotate_left
            · simp only [Act.put, List.setIfInBounds_toArray, List.set_cons_zero, List.set_cons_succ, i64_w, i32_w]
              rfl
            refine pure_ (i := 14) (N := some 31) (v := undef) (a' := ?_) (bmG 16 32767) rfl rfl (by kernel_rfl) (fun _ _ _ h => h) (Or.inr ⟨by rfl, rfl⟩) ?_ ?_
            rotate_left
            · simp only [Act.put, List.setIfInBounds_toArray, List.set_cons_zero, List.set_cons_succ, i64_w, i32_w]
              rfl
            refine pure_ (i := 15) (N := some 32) (v := ?_) (a' := ?_) (bmG 16 65535) rfl rfl (by kernel_rfl) (fun _ _ _ h => h) (Or.inl ⟨by rfl, ?_⟩) ?_ ?_
            rotate_left
            · intro w'
              go_simp
              (try simp only [h400])
              with_reducible rfl
            rotate_left
            · simp only [Act.put, List.setIfInBounds_toArray, List.set_cons_zero, List.set_cons_succ, i64_w, i32_w]
              rfl
            refine done_ (by kernel_rfl) ?_
            go_wp2_with fail
            go_ret
            exact ⟨i, rfl, by rw [HF.out]; exact decide_eq_false (by omega), below_step HB6.out hS⟩
          | true =>
            cases bf with
            | false =>
              have HF := Aside0.mk (show treeB t = false from by
                rw [HTR.out, Bool.and_false, Bool.false_and])
              refine start_ (n := 16) (S := fun w' => Below W6.heap.size W6 w') (ds := []) (bmG 16 0) (by kernel_rfl) rfl (by kernel_rfl) (below_drew1 (Below.refl W6.heap.size W6)) (fun hS => ?_)
              generalize W6.drew = wd at hS ⊢
              refine pure_ (i := 0) (N := some 17) (v := ?_) (a' := ?_) (bmG 16 1) rfl rfl (by kernel_rfl) (fun _ _ _ h => h) (Or.inl ⟨by rfl, ?_⟩) ?_ ?_
              rotate_left
              · intro w'
                go_simp
                (try simp only [h400])
                with_reducible rfl
              rotate_left
              · simp only [Act.put, List.setIfInBounds_toArray, List.set_cons_zero, List.set_cons_succ, i64_w, i32_w]
                rfl
              refine pure_ (i := 1) (N := some 18) (v := .bool false) (a' := ?_) (bmG 16 3) rfl rfl (by kernel_rfl) (fun _ _ _ h => h) (Or.inl ⟨by rfl, ?_⟩) ?_ ?_
              · intro w'
                go_simp
                (try simp only [h400])
                (try rfl)
              rotate_left
              · simp only [Act.put, List.setIfInBounds_toArray, List.set_cons_zero, List.set_cons_succ, i64_w, i32_w]
                rfl
              refine pure_ (i := 2) (N := some 19) (v := ?_) (a' := ?_) (bmG 16 7) rfl rfl (by kernel_rfl) (fun _ _ _ h => h) (Or.inl ⟨by rfl, ?_⟩) ?_ ?_
              rotate_left
              · intro w'
                go_simp
                (try simp only [h400])
                with_reducible rfl
              rotate_left
              · simp only [Act.put, List.setIfInBounds_toArray, List.set_cons_zero, List.set_cons_succ, i64_w, i32_w]
                rfl
              refine take_ (i := 3) (N := some 20) (v := ?_) (a' := ?_) (bmG 16 15) rfl rfl (by kernel_rfl) (fun _ _ _ h => h) (Or.inl ⟨by rfl, ?_⟩) hS ?_ ?_
              rotate_left
              · intro w' hS
                have s0 := (show w'.cell? ⟨gn, 0, none⟩ = some (.string x.f0) from (blk_cell (blk_below HN.out hS) 0).trans rfl)
                have s1 := (show w'.cell? ⟨gn, 1, none⟩ = some (.int .i64 x.f1) from (blk_cell (blk_below HN.out hS) 1).trans rfl)
                have s2 := (show w'.cell? ⟨gn, 2, none⟩ = some (.string x.f2) from (blk_cell (blk_below HN.out hS) 2).trans rfl)
                go_simp
                with_reducible rfl
              rotate_left
              · simp only [Act.put, List.setIfInBounds_toArray, List.set_cons_zero, List.set_cons_succ, i64_w, i32_w]
                rfl
              refine one_ (i := 4) (N := some 21) (bmG 16 31) rfl rfl (by kernel_rfl) (by decide) (fun Kz hKz => ?_)
              refine goes_ Tryz.func56 (by kernel_rfl) rfl #[.agg #[.string x.f0, .int .i64 x.f1, .string x.f2]] (by rfl) rfl rfl (by (try simp only [List.map_toArray, List.map_cons, List.map_nil]); first | done | rfl) ?_
              refine (HGood.out _ hS).mono ?_
              rintro e wc ⟨rfl, hb⟩
              refine ⟨_, rfl, ?_⟩
              refine hKz.out _ _ (below_step hS hb) (fun hS => ?_)
              clear hKz Kz
              refine norm_ (a' := ?_) ?_ ?_
              rotate_left
              · show Act.put _ (some 21) _ = _
                simp only [Act.put, List.setIfInBounds_toArray, List.set_cons_zero, List.set_cons_succ, i64_w, i32_w]
                rfl
              refine pure_ (i := 5) (N := some 22) (v := ?_) (a' := ?_) (bmG 16 63) rfl rfl (by kernel_rfl) (fun _ _ _ h => h) (Or.inl ⟨by rfl, ?_⟩) ?_ ?_
              rotate_left
              · intro w'
                go_simp
                (try simp only [h400])
                with_reducible rfl
              rotate_left
              · simp only [Act.put, List.setIfInBounds_toArray, List.set_cons_zero, List.set_cons_succ, i64_w, i32_w]
                rfl
              refine pure_ (i := 6) (N := some 23) (v := ?_) (a' := ?_) (bmG 16 127) rfl rfl (by kernel_rfl) (fun _ _ _ h => h) (Or.inl ⟨by rfl, ?_⟩) ?_ ?_
              rotate_left
              · intro w'
                go_simp
                (try simp only [h400])
                with_reducible rfl
              rotate_left
              · simp only [Act.put, List.setIfInBounds_toArray, List.set_cons_zero, List.set_cons_succ, i64_w, i32_w]
                rfl
              refine pure_ (i := 7) (N := some 24) (v := ?_) (a' := ?_) (bmG 16 255) rfl rfl (by kernel_rfl) (fun _ _ _ h => h) (Or.inl ⟨by rfl, ?_⟩) ?_ ?_
              rotate_left
              · intro w'
                go_simp
                (try simp only [h400])
                with_reducible rfl
              rotate_left
              · simp only [Act.put, List.setIfInBounds_toArray, List.set_cons_zero, List.set_cons_succ, i64_w, i32_w]
                rfl
              refine take_ (i := 8) (N := some 25) (v := ?_) (a' := ?_) (bmG 16 511) rfl rfl (by kernel_rfl) (fun _ _ _ h => h) (Or.inl ⟨by rfl, ?_⟩) hS ?_ ?_
              rotate_left
              · intro w' hS
                have s0 := (show w'.cell? ⟨gn, 0, none⟩ = some (.string x.f0) from (blk_cell (blk_below HN.out hS) 0).trans rfl)
                have s1 := (show w'.cell? ⟨gn, 1, none⟩ = some (.int .i64 x.f1) from (blk_cell (blk_below HN.out hS) 1).trans rfl)
                have s2 := (show w'.cell? ⟨gn, 2, none⟩ = some (.string x.f2) from (blk_cell (blk_below HN.out hS) 2).trans rfl)
                go_simp
                with_reducible rfl
              rotate_left
              · simp only [Act.put, List.setIfInBounds_toArray, List.set_cons_zero, List.set_cons_succ, i64_w, i32_w]
                rfl
              refine pure_ (i := 9) (N := some 26) (v := ?_) (a' := ?_) (bmG 16 1023) rfl rfl (by kernel_rfl) (fun _ _ _ h => h) (Or.inl ⟨by rfl, ?_⟩) ?_ ?_
              rotate_left
              · intro w'
                go_simp
                (try simp only [h400])
                with_reducible rfl
              rotate_left
              · simp only [Act.put, List.setIfInBounds_toArray, List.set_cons_zero, List.set_cons_succ, i64_w, i32_w]
                rfl
              refine pure_ (i := 10) (N := some 27) (v := ?_) (a' := ?_) (bmG 16 2047) rfl rfl (by kernel_rfl) (fun _ _ _ h => h) (Or.inl ⟨by rfl, ?_⟩) ?_ ?_
              rotate_left
              · intro w'
                go_simp
                (try simp only [h400])
                with_reducible rfl
              rotate_left
              · simp only [Act.put, List.setIfInBounds_toArray, List.set_cons_zero, List.set_cons_succ, i64_w, i32_w]
                rfl
              refine pure_ (i := 11) (N := some 28) (v := ?_) (a' := ?_) (bmG 16 4095) rfl rfl (by kernel_rfl) (fun _ _ _ h => h) (Or.inl ⟨by rfl, ?_⟩) ?_ ?_
              rotate_left
              · intro w'
                go_simp
                (try simp only [h400])
                with_reducible rfl
              rotate_left
              · simp only [Act.put, List.setIfInBounds_toArray, List.set_cons_zero, List.set_cons_succ, i64_w, i32_w]
                rfl
              refine pure_ (i := 12) (N := some 29) (v := ?_) (a' := ?_) (bmG 16 8191) rfl rfl (by kernel_rfl) (fun _ _ _ h => h) (Or.inl ⟨by rfl, ?_⟩) ?_ ?_
              rotate_left
              · intro w'
                go_simp
                (try simp only [h400])
                with_reducible rfl
              rotate_left
              · simp only [Act.put, List.setIfInBounds_toArray, List.set_cons_zero, List.set_cons_succ, i64_w, i32_w]
                rfl
              refine one_ (i := 13) (N := some 30) (bmG 16 16383) rfl rfl (by kernel_rfl) (by decide) (fun Kz hKz => ?_)
              refine goes_ Tryz.func57 (by kernel_rfl) rfl #[.agg #[.string x.f0, .int .i64 x.f1, .string x.f2], .slice (some ad) i c0, .map (some w.heap.size)] (by rfl) rfl rfl (by (try simp only [List.map_toArray, List.map_cons, List.map_nil]); first | done | rfl) ?_
              refine (HFol.out _ hS).mono ?_
              rintro e wc ⟨rfl, hb⟩
              refine ⟨_, rfl, ?_⟩
              refine hKz.out _ _ (below_step hS hb) (fun hS => ?_)
              clear hKz Kz
              refine norm_ (a' := ?_) ?_ ?_
              rotate_left
              · show Act.put _ (some 30) _ = _
                simp only [Act.put, List.setIfInBounds_toArray, List.set_cons_zero, List.set_cons_succ, i64_w, i32_w]
                rfl
              refine pure_ (i := 14) (N := some 31) (v := ?_) (a' := ?_) (bmG 16 32767) rfl rfl (by kernel_rfl) (fun _ _ _ h => h) (Or.inl ⟨by rfl, ?_⟩) ?_ ?_
              rotate_left
              · intro w'
                go_simp
                (try simp only [h400])
                with_reducible rfl
              rotate_left
              · simp only [Act.put, List.setIfInBounds_toArray, List.set_cons_zero, List.set_cons_succ, i64_w, i32_w]
                rfl
              refine pure_ (i := 15) (N := some 32) (v := ?_) (a' := ?_) (bmG 16 65535) rfl rfl (by kernel_rfl) (fun _ _ _ h => h) (Or.inl ⟨by rfl, ?_⟩) ?_ ?_
              rotate_left
              · intro w'
                go_simp
                (try simp only [h400])
                with_reducible rfl
              rotate_left
              · simp only [Act.put, List.setIfInBounds_toArray, List.set_cons_zero, List.set_cons_succ, i64_w, i32_w]
                rfl
              refine done_ (by kernel_rfl) ?_
              go_wp2_with fail
              go_ret
              exact ⟨i, rfl, by rw [HF.out]; exact decide_eq_false (by omega), below_step HB6.out hS⟩
            | true =>
              refine start_ (n := 16) (S := fun w' => Below W6.heap.size W6 w') (ds := []) (bmG 16 0) (by kernel_rfl) rfl (by kernel_rfl) (below_drew1 (Below.refl W6.heap.size W6)) (fun hS => ?_)
              generalize W6.drew = wd at hS ⊢
              refine pure_ (i := 0) (N := some 17) (v := ?_) (a' := ?_) (bmG 16 1) rfl rfl (by kernel_rfl) (fun _ _ _ h => h) (Or.inl ⟨by rfl, ?_⟩) ?_ ?_
              rotate_left
              · intro w'
                go_simp
                (try simp only [h400])
                with_reducible rfl
              rotate_left
              · simp only [Act.put, List.setIfInBounds_toArray, List.set_cons_zero, List.set_cons_succ, i64_w, i32_w]
                rfl
              refine pure_ (i := 1) (N := some 18) (v := .bool false) (a' := ?_) (bmG 16 3) rfl rfl (by kernel_rfl) (fun _ _ _ h => h) (Or.inl ⟨by rfl, ?_⟩) ?_ ?_
              · intro w'
                go_simp
                (try simp only [h400])
                (try rfl)
              rotate_left
              · simp only [Act.put, List.setIfInBounds_toArray, List.set_cons_zero, List.set_cons_succ, i64_w, i32_w]
                rfl
              refine pure_ (i := 2) (N := some 19) (v := ?_) (a' := ?_) (bmG 16 7) rfl rfl (by kernel_rfl) (fun _ _ _ h => h) (Or.inl ⟨by rfl, ?_⟩) ?_ ?_
              rotate_left
              · intro w'
                go_simp
                (try simp only [h400])
                with_reducible rfl
              rotate_left
              · simp only [Act.put, List.setIfInBounds_toArray, List.set_cons_zero, List.set_cons_succ, i64_w, i32_w]
                rfl
              refine take_ (i := 3) (N := some 20) (v := ?_) (a' := ?_) (bmG 16 15) rfl rfl (by kernel_rfl) (fun _ _ _ h => h) (Or.inl ⟨by rfl, ?_⟩) hS ?_ ?_
              rotate_left
              · intro w' hS
                have s0 := (show w'.cell? ⟨gn, 0, none⟩ = some (.string x.f0) from (blk_cell (blk_below HN.out hS) 0).trans rfl)
                have s1 := (show w'.cell? ⟨gn, 1, none⟩ = some (.int .i64 x.f1) from (blk_cell (blk_below HN.out hS) 1).trans rfl)
                have s2 := (show w'.cell? ⟨gn, 2, none⟩ = some (.string x.f2) from (blk_cell (blk_below HN.out hS) 2).trans rfl)
                go_simp
                with_reducible rfl
              rotate_left
              · simp only [Act.put, List.setIfInBounds_toArray, List.set_cons_zero, List.set_cons_succ, i64_w, i32_w]
                rfl
              refine one_ (i := 4) (N := some 21) (bmG 16 31) rfl rfl (by kernel_rfl) (by decide) (fun Kz hKz => ?_)
              refine goes_ Tryz.func56 (by kernel_rfl) rfl #[.agg #[.string x.f0, .int .i64 x.f1, .string x.f2]] (by rfl) rfl rfl (by (try simp only [List.map_toArray, List.map_cons, List.map_nil]); first | done | rfl) ?_
              refine (HGood.out _ hS).mono ?_
              rintro e wc ⟨rfl, hb⟩
              refine ⟨_, rfl, ?_⟩
              refine hKz.out _ _ (below_step hS hb) (fun hS => ?_)
              clear hKz Kz
              refine norm_ (a' := ?_) ?_ ?_
              rotate_left
              · show Act.put _ (some 21) _ = _
                simp only [Act.put, List.setIfInBounds_toArray, List.set_cons_zero, List.set_cons_succ, i64_w, i32_w]
                rfl
              refine pure_ (i := 5) (N := some 22) (v := ?_) (a' := ?_) (bmG 16 63) rfl rfl (by kernel_rfl) (fun _ _ _ h => h) (Or.inl ⟨by rfl, ?_⟩) ?_ ?_
              rotate_left
              · intro w'
                go_simp
                (try simp only [h400])
                with_reducible rfl
              rotate_left
              · simp only [Act.put, List.setIfInBounds_toArray, List.set_cons_zero, List.set_cons_succ, i64_w, i32_w]
                rfl
              refine pure_ (i := 6) (N := some 23) (v := ?_) (a' := ?_) (bmG 16 127) rfl rfl (by kernel_rfl) (fun _ _ _ h => h) (Or.inl ⟨by rfl, ?_⟩) ?_ ?_
              rotate_left
              · intro w'
                go_simp
                (try simp only [h400])
                with_reducible rfl
              rotate_left
              · simp only [Act.put, List.setIfInBounds_toArray, List.set_cons_zero, List.set_cons_succ, i64_w, i32_w]
                rfl
              refine pure_ (i := 7) (N := some 24) (v := ?_) (a' := ?_) (bmG 16 255) rfl rfl (by kernel_rfl) (fun _ _ _ h => h) (Or.inl ⟨by rfl, ?_⟩) ?_ ?_
              rotate_left
              · intro w'
                go_simp
                (try simp only [h400])
                with_reducible rfl
              rotate_left
              · simp only [Act.put, List.setIfInBounds_toArray, List.set_cons_zero, List.set_cons_succ, i64_w, i32_w]
                rfl
              refine take_ (i := 8) (N := some 25) (v := ?_) (a' := ?_) (bmG 16 511) rfl rfl (by kernel_rfl) (fun _ _ _ h => h) (Or.inl ⟨by rfl, ?_⟩) hS ?_ ?_
              rotate_left
              · intro w' hS
                have s0 := (show w'.cell? ⟨gn, 0, none⟩ = some (.string x.f0) from (blk_cell (blk_below HN.out hS) 0).trans rfl)
                have s1 := (show w'.cell? ⟨gn, 1, none⟩ = some (.int .i64 x.f1) from (blk_cell (blk_below HN.out hS) 1).trans rfl)
                have s2 := (show w'.cell? ⟨gn, 2, none⟩ = some (.string x.f2) from (blk_cell (blk_below HN.out hS) 2).trans rfl)
                go_simp
                with_reducible rfl
              rotate_left
              · simp only [Act.put, List.setIfInBounds_toArray, List.set_cons_zero, List.set_cons_succ, i64_w, i32_w]
                rfl
              refine pure_ (i := 9) (N := some 26) (v := ?_) (a' := ?_) (bmG 16 1023) rfl rfl (by kernel_rfl) (fun _ _ _ h => h) (Or.inl ⟨by rfl, ?_⟩) ?_ ?_
              rotate_left
              · intro w'
                go_simp
                (try simp only [h400])
                with_reducible rfl
              rotate_left
              · simp only [Act.put, List.setIfInBounds_toArray, List.set_cons_zero, List.set_cons_succ, i64_w, i32_w]
                rfl
              refine pure_ (i := 10) (N := some 27) (v := ?_) (a' := ?_) (bmG 16 2047) rfl rfl (by kernel_rfl) (fun _ _ _ h => h) (Or.inl ⟨by rfl, ?_⟩) ?_ ?_
              rotate_left
              · intro w'
                go_simp
                (try simp only [h400])
                with_reducible rfl
              rotate_left
              · simp only [Act.put, List.setIfInBounds_toArray, List.set_cons_zero, List.set_cons_succ, i64_w, i32_w]
                rfl
              refine pure_ (i := 11) (N := some 28) (v := ?_) (a' := ?_) (bmG 16 4095) rfl rfl (by kernel_rfl) (fun _ _ _ h => h) (Or.inl ⟨by rfl, ?_⟩) ?_ ?_
              rotate_left
              · intro w'
                go_simp
                (try simp only [h400])
                with_reducible rfl
              rotate_left
              · simp only [Act.put, List.setIfInBounds_toArray, List.set_cons_zero, List.set_cons_succ, i64_w, i32_w]
                rfl
              refine pure_ (i := 12) (N := some 29) (v := ?_) (a' := ?_) (bmG 16 8191) rfl rfl (by kernel_rfl) (fun _ _ _ h => h) (Or.inl ⟨by rfl, ?_⟩) ?_ ?_
              rotate_left
              · intro w'
                go_simp
                (try simp only [h400])
                with_reducible rfl
              rotate_left
              · simp only [Act.put, List.setIfInBounds_toArray, List.set_cons_zero, List.set_cons_succ, i64_w, i32_w]
                rfl
              refine one_ (i := 13) (N := some 30) (bmG 16 16383) rfl rfl (by kernel_rfl) (by decide) (fun Kz hKz => ?_)
              refine goes_ Tryz.func57 (by kernel_rfl) rfl #[.agg #[.string x.f0, .int .i64 x.f1, .string x.f2], .slice (some ad) i c0, .map (some w.heap.size)] (by rfl) rfl rfl (by (try simp only [List.map_toArray, List.map_cons, List.map_nil]); first | done | rfl) ?_
              refine (HFol.out _ hS).mono ?_
              rintro e wc ⟨rfl, hb⟩
              refine ⟨_, rfl, ?_⟩
              refine hKz.out _ _ (below_step hS hb) (fun hS => ?_)
              clear hKz Kz
              refine norm_ (a' := ?_) ?_ ?_
              rotate_left
              · show Act.put _ (some 30) _ = _
                simp only [Act.put, List.setIfInBounds_toArray, List.set_cons_zero, List.set_cons_succ, i64_w, i32_w]
                rfl
              refine pure_ (i := 14) (N := some 31) (v := ?_) (a' := ?_) (bmG 16 32767) rfl rfl (by kernel_rfl) (fun _ _ _ h => h) (Or.inl ⟨by rfl, ?_⟩) ?_ ?_
              rotate_left
              · intro w'
                go_simp
                (try simp only [h400])
                with_reducible rfl
              rotate_left
              · simp only [Act.put, List.setIfInBounds_toArray, List.set_cons_zero, List.set_cons_succ, i64_w, i32_w]
                rfl
              refine pure_ (i := 15) (N := some 32) (v := ?_) (a' := ?_) (bmG 16 65535) rfl rfl (by kernel_rfl) (fun _ _ _ h => h) (Or.inl ⟨by rfl, ?_⟩) ?_ ?_
              rotate_left
              · intro w'
                go_simp
                (try simp only [h400])
                with_reducible rfl
              rotate_left
              · simp only [Act.put, List.setIfInBounds_toArray, List.set_cons_zero, List.set_cons_succ, i64_w, i32_w]
                rfl
              refine done_ (by kernel_rfl) ?_
              obtain ⟨hi4, hgx⟩ : i < 400 ∧ goodN x = true := by
                refine ⟨by have := of_decide_eq_false h400; omega, ?_⟩
                exact HGx.out
              have hps : x.f0.size ≤ 200 := path_small (by unfold goodN at hgx; rw [Bool.and_eq_true, Bool.and_eq_true] at hgx; exact hgx.1.1)
              have HB8 := Aside0.mk (below_step HB6.out hS)
              have HM8 := Aside0.mk (ownsMap_below HM6.out hS)
              obtain ⟨bk, hbk⟩ : ∃ b, (x.f1 == 1) = b := ⟨_, rfl⟩
              have hz0 := (show wc.cell? ⟨gn, 0, none⟩ = some (.string x.f0) from (blk_cell (blk_below HN.out hS) 0).trans rfl)
              have hz1 := (show wc.cell? ⟨gn, 1, none⟩ = some (.int .i64 x.f1) from (blk_cell (blk_below HN.out hS) 1).trans rfl)
              obtain ⟨hris, hall⟩ := ris_step HR.out HFx.out
              have HRs := Aside0.mk hris
              have HAl := Aside0.mk hall
              have HT9 := Aside0.mk (show treeB t = treeR (t.take (i + 1)) (t.drop (i + 1)) from by rw [HTR.out, decide_eq_true hi4]; rfl)
              have htk := Aside0.mk (show t.take (i + 1) = t.take i ++ [x] from by rw [HX.out]; exact List.take_succ_eq_append_getElem hil)
              have HBK := Aside0.mk hbk
              clear hS hgx hris hall HGood HFol HTR HN HB6 HM6
              go_wp2_with (at_mapUpdate; refine wpList_mapUpdate_own _ rfl _ _ _ 88 rfl 9 4 keyS Tryz.underlying88 _ w.heap.size i D rfl HM8.out (by simp only [maxLen]; omega) _ _ (.string x.f0.data.toList) rfl rfl (keyOf_string_mk Tryz.underlying9 (by simp only [maxLen]; omega)) (.lit (.bool bk)) [] (plainElem_bool Tryz.underlying4 bk) ?_; intro w9 hm9 hg9; have HM9 := Aside0.mk hm9; have HB9 := Aside0.mk (belowG HB8.out hg9 (fun k hk => by cases hk; exact Nat.le_refl _)); clear hm9 hg9)
              refine ⟨⟨i + 1, _, by simp, by omega, HM9, ⟨fun p => ?_⟩, ⟨by rw [htk.out]; exact HRs.out⟩, HT9, HB9⟩, by simp [intOf]; omega⟩
              have hIM : IsMap D := let ⟨_, _, _, _, _, e⟩ := HM8.out; ⟨_, e⟩
              rw [htk.out, dirAt_step]
              by_cases e : p = x.f0
              · rw [e, atKey_put_same (k := .string x.f0.data.toList) hIM (by exact trivial), dirAt_none HAl.out, decide_eq_true (rfl : x.f0 = x.f0), ← HBK.out, Bool.false_or, Bool.true_and]
                congr 2
              · rw [atKey_put_other (fun h => e (toList_extA (Lit.string.inj h))), HD.out p, decide_eq_false (fun h => e h.symm), Bool.false_and, Bool.or_false]
      · have hic : decide ((i : Int) < (t.length : Int)) = false := decide_eq_false (by omega)
        have hi2 : i = t.length := by omega
        have HF := Aside0.mk (show treeB t = true from by
          rw [HT.out, hi2, List.drop_length]
          cases t.take t.length <;> rfl)
        subst hi2
        clear HM HD HR HT hil hi
        go_wp2_with fail
        go_ret
        exact ⟨-1, rfl, by rw [HF.out]; rfl, HB.out⟩
theorem treeMay_calls (A0 : Option Addr) (c0 : Nat) (t : List S47) (w : World) (hT : Aside0 (Tabs w)) (hC : Kd.C k47 w A0 t.length t) (hc : t.length ≤ c0) (hn : t.length ≤ 100000) :
    Calls Tryz.prog 26 #[.slice A0 t.length c0] w fun e w' => e = .returned (.bool (treeB t)) ∧ Below w.heap.size w w' := by
  have X := Aside0.mk hC
  clear hC
  go_enter Tryz.func26, Tryz.ntmps26
  go_wp2_with fail
  refine (bad_calls A0 c0 t w hT X.out hc hn).mono ?_
  rintro e w1 ⟨r, rfl, hr, hb⟩
  have HB := Aside0.mk hb
  have HR := Aside0.mk hr
  clear hb hr
  go_wp2_with fail
  go_ret
  exact ⟨by rw [← HR.out]; rfl, HB.out⟩
end Go.Proofs.YtdijnmcfpbceaaaGreatDoor.X

namespace Go.Proofs.YtdijnmcfpbceaaaGreatDoor.P
open Go.Proofs.YtdijnmcfpbceaaaGreatDoor.X
open Go.RowKit Go.Proofs.YtdijnmcfpbceaaaGreatDoorW.PrintWords Go.Proofs.YtdijnmcfpbceaaaGreatDoorW.PrintLast Go.Proofs.YtdijnmcfpbceaaaGreatDoorW.PrintMore
attribute [local go_sem] min2_int min_two
set_option linter.unusedVariables false
set_option linter.unusedSimpArgs false
def tar_name.f (a0_0 : ByteArray) (a0_1 : Int) (a0_2 : ByteArray) : Option (ByteArray) := if a0_0.toList = ([] : List UInt8) then (some (⟨#[46]⟩ : ByteArray)) else (some a0_0)
set_option maxHeartbeats 8000000 in
set_option maxRecDepth 100000 in
theorem tar_name.calls (a0_0 : ByteArray) (a0_1 : Int) (a0_2 : ByteArray) (r : ByteArray) (w : World) (h : tar_name.f a0_0 a0_1 a0_2 = some r) :
  Calls Tryz.prog 61 #[.agg #[.string a0_0, .int .i64 a0_1, .string a0_2]] w fun e w' => e = .returned (.string r) ∧ Below w.heap.size w w' := by
 have hu47 := Tryz.underlying47
 have HB := Aside0.mk (Below.refl w.heap.size w)
 have H : (if a0_0.toList = ([] : List UInt8) then (some (⟨#[46]⟩ : ByteArray)) else (some a0_0)) = some r := h
 clear h
 by_cases c2 : a0_0.toList = ([] : List UInt8)
 ·rw [if_pos c2] at H
  have c2b0 : (a0_0.toList == ([] : List UInt8)) = true := beq_iff_eq.mpr c2
  have c2b1 : (a0_0.toList != ([] : List UInt8)) = false := bne_eq_false_iff_eq.mpr c2
  clear c2
  obtain rfl := Option.some.inj H
  go_enter Tryz.func61, Tryz.ntmps61
  go_wp2_with (first | ((with_reducible refine gate_dst (N := 1) rfl ?_); refine box_event ?hg (N := 1) ?hd (cs := #[.string a0_0, .int .i64 a0_1, .string a0_2]) (t := 47) ?hr ?_; (case hd => rfl); (case hg => rfl); (case hr => first | (go_simp; done) | (go_simp; rfl)); intro gb101 hg w3 hbox hb; have n0_ := Aside0.mk (below_step (by repeat (first | (with_reducible first | exact HB.out | apply below_alloc | apply pw_below_drewN | apply below_drew1) | exact HB.out)) hb); have n1_ := Aside0.mk (hbox); have n2_ := Aside0.mk ((by rw [hg]; exact (below_size (by repeat (first | (with_reducible first | exact HB.out | apply below_alloc | apply pw_below_drewN | apply below_drew1) | exact HB.out))) : w.heap.size ≤ gb101)); have n3_ := Aside0.mk ((by rw [hg]; exact (below_size (by repeat (first | (with_reducible first | exact HB.out | apply below_alloc | apply pw_below_drewN | apply below_drew1) | exact HB.out))) : w.heap.size ≤ gb101)); clear HB; have HB := n0_; have BK101 := n1_; have GW101 := n2_; have GE101 := n3_; clear n0_ n1_ n2_ n3_; clear hb hbox hg; have hcz4_0 : w3.cell? ⟨gb101, 0, none⟩ = some (.string a0_0) := (blk_cell BK101.out 0).trans rfl; have hcz4_1 : w3.cell? ⟨gb101, 1, none⟩ = some (.int .i64 a0_1) := (blk_cell BK101.out 1).trans rfl; have hcz4_2 : w3.cell? ⟨gb101, 2, none⟩ = some (.string a0_2) := (blk_cell BK101.out 2).trans rfl; have hfz4_0 := blk_frozen BK101.out 0; have hfz4_1 := blk_frozen BK101.out 1; have hfz4_2 := blk_frozen BK101.out 2))
  go_ret
  exact ⟨by first | rfl | (simp [errW_none, errW_some] <;> rfl) | (simp [*, errW_none, errW_some] <;> rfl), by repeat (first | (with_reducible first | exact HB.out | apply below_alloc | apply pw_below_drewN | apply below_drew1 | refine below_set ?_ GE101.out) | exact HB.out)⟩
 ·rw [if_neg c2] at H
  have c2b0 : (a0_0.toList == ([] : List UInt8)) = false := beq_eq_false_iff_ne.mpr c2
  have c2b1 : (a0_0.toList != ([] : List UInt8)) = true := bne_iff_ne.mpr c2
  obtain rfl := Option.some.inj H
  go_enter Tryz.func61, Tryz.ntmps61
  go_wp2_with (first | ((with_reducible refine gate_dst (N := 1) rfl ?_); refine box_event ?hg (N := 1) ?hd (cs := #[.string a0_0, .int .i64 a0_1, .string a0_2]) (t := 47) ?hr ?_; (case hd => rfl); (case hg => rfl); (case hr => first | (go_simp; done) | (go_simp; rfl)); intro gb101 hg w5 hbox hb; have n0_ := Aside0.mk (below_step (by repeat (first | (with_reducible first | exact HB.out | apply below_alloc | apply pw_below_drewN | apply below_drew1) | exact HB.out)) hb); have n1_ := Aside0.mk (hbox); have n2_ := Aside0.mk ((by rw [hg]; exact (below_size (by repeat (first | (with_reducible first | exact HB.out | apply below_alloc | apply pw_below_drewN | apply below_drew1) | exact HB.out))) : w.heap.size ≤ gb101)); have n3_ := Aside0.mk ((by rw [hg]; exact (below_size (by repeat (first | (with_reducible first | exact HB.out | apply below_alloc | apply pw_below_drewN | apply below_drew1) | exact HB.out))) : w.heap.size ≤ gb101)); clear HB; have HB := n0_; have BK101 := n1_; have GW101 := n2_; have GE101 := n3_; clear n0_ n1_ n2_ n3_; clear hb hbox hg; have hcz6_0 : w5.cell? ⟨gb101, 0, none⟩ = some (.string a0_0) := (blk_cell BK101.out 0).trans rfl; have hcz6_1 : w5.cell? ⟨gb101, 1, none⟩ = some (.int .i64 a0_1) := (blk_cell BK101.out 1).trans rfl; have hcz6_2 : w5.cell? ⟨gb101, 2, none⟩ = some (.string a0_2) := (blk_cell BK101.out 2).trans rfl; have hfz6_0 := blk_frozen BK101.out 0; have hfz6_1 := blk_frozen BK101.out 1; have hfz6_2 := blk_frozen BK101.out 2))
  go_ret
  exact ⟨by first | rfl | (simp [errW_none, errW_some] <;> rfl) | (simp [*, errW_none, errW_some] <;> rfl), by repeat (first | (with_reducible first | exact HB.out | apply below_alloc | apply pw_below_drewN | apply below_drew1 | refine below_set ?_ GE101.out) | exact HB.out)⟩
end Go.Proofs.YtdijnmcfpbceaaaGreatDoor.P

namespace Go.Proofs.YtdijnmcfpbceaaaGreatDoor.P
open Go.Proofs.YtdijnmcfpbceaaaGreatDoor.X
open Go.RowKit Go.Proofs.YtdijnmcfpbceaaaGreatDoorW.PrintWords Go.Proofs.YtdijnmcfpbceaaaGreatDoorW.PrintLast Go.Proofs.YtdijnmcfpbceaaaGreatDoorW.PrintMore
attribute [local go_sem] min2_int min_two
set_option linter.unusedVariables false
set_option linter.unusedSimpArgs false
def tar_extra.f (a0_0 : ByteArray) (a0_1 : Int) (a0_2 : ByteArray) : Option (ByteArray) := (tar_name.f a0_0 a0_1 a0_2).bind fun t103 => (if (t103.size : Int) > 100 then ((tar_Record.f (⟨#[112, 97, 116, 104]⟩ : ByteArray) t103).bind fun t104 => (if 0 + t104.size ≤ 9223372036854775807 then (if a0_1 = 4 then (if (a0_2.size : Int) > 100 then ((tar_Record.f (⟨#[108, 105, 110, 107, 112, 97, 116, 104]⟩ : ByteArray) a0_2).bind fun t105 => (if ((⟨#[]⟩ : ByteArray) ++ t104).size + t105.size ≤ 9223372036854775807 then (some (((⟨#[]⟩ : ByteArray) ++ t104) ++ t105)) else (none))) else (some ((⟨#[]⟩ : ByteArray) ++ t104))) else (some ((⟨#[]⟩ : ByteArray) ++ t104))) else (none))) else (if a0_1 = 4 then (if (a0_2.size : Int) > 100 then ((tar_Record.f (⟨#[108, 105, 110, 107, 112, 97, 116, 104]⟩ : ByteArray) a0_2).bind fun t106 => (if 0 + t106.size ≤ 9223372036854775807 then (some ((⟨#[]⟩ : ByteArray) ++ t106)) else (none))) else (some (⟨#[]⟩ : ByteArray))) else (some (⟨#[]⟩ : ByteArray))))
set_option maxHeartbeats 8000000 in
set_option maxRecDepth 100000 in
theorem tar_extra.calls (a0_0 : ByteArray) (a0_1 : Int) (a0_2 : ByteArray) (r : ByteArray) (w : World) (hT : Aside0 (Tabs w)) (h : tar_extra.f a0_0 a0_1 a0_2 = some r) :
  Calls Tryz.prog 58 #[.agg #[.string a0_0, .int .i64 a0_1, .string a0_2]] w fun e w' => e = .returned (.string r) ∧ Below w.heap.size w w' := by
 have hu47 := Tryz.underlying47
 have HB := Aside0.mk (Below.refl w.heap.size w)
 have H : ((tar_name.f a0_0 a0_1 a0_2).bind fun t103 => (if (t103.size : Int) > 100 then ((tar_Record.f (⟨#[112, 97, 116, 104]⟩ : ByteArray) t103).bind fun t104 => (if 0 + t104.size ≤ 9223372036854775807 then (if a0_1 = 4 then (if (a0_2.size : Int) > 100 then ((tar_Record.f (⟨#[108, 105, 110, 107, 112, 97, 116, 104]⟩ : ByteArray) a0_2).bind fun t105 => (if ((⟨#[]⟩ : ByteArray) ++ t104).size + t105.size ≤ 9223372036854775807 then (some (((⟨#[]⟩ : ByteArray) ++ t104) ++ t105)) else (none))) else (some ((⟨#[]⟩ : ByteArray) ++ t104))) else (some ((⟨#[]⟩ : ByteArray) ++ t104))) else (none))) else (if a0_1 = 4 then (if (a0_2.size : Int) > 100 then ((tar_Record.f (⟨#[108, 105, 110, 107, 112, 97, 116, 104]⟩ : ByteArray) a0_2).bind fun t106 => (if 0 + t106.size ≤ 9223372036854775807 then (some ((⟨#[]⟩ : ByteArray) ++ t106)) else (none))) else (some (⟨#[]⟩ : ByteArray))) else (some (⟨#[]⟩ : ByteArray))))) = some r := h
 clear h
 replace H := Option.bind_eq_some_iff.mp H
 obtain ⟨t103, A20, H⟩ := H
 replace H : (if (t103.size : Int) > 100 then ((tar_Record.f (⟨#[112, 97, 116, 104]⟩ : ByteArray) t103).bind fun t104 => (if 0 + t104.size ≤ 9223372036854775807 then (if a0_1 = 4 then (if (a0_2.size : Int) > 100 then ((tar_Record.f (⟨#[108, 105, 110, 107, 112, 97, 116, 104]⟩ : ByteArray) a0_2).bind fun t105 => (if ((⟨#[]⟩ : ByteArray) ++ t104).size + t105.size ≤ 9223372036854775807 then (some (((⟨#[]⟩ : ByteArray) ++ t104) ++ t105)) else (none))) else (some ((⟨#[]⟩ : ByteArray) ++ t104))) else (some ((⟨#[]⟩ : ByteArray) ++ t104))) else (none))) else (if a0_1 = 4 then (if (a0_2.size : Int) > 100 then ((tar_Record.f (⟨#[108, 105, 110, 107, 112, 97, 116, 104]⟩ : ByteArray) a0_2).bind fun t106 => (if 0 + t106.size ≤ 9223372036854775807 then (some ((⟨#[]⟩ : ByteArray) ++ t106)) else (none))) else (some (⟨#[]⟩ : ByteArray))) else (some (⟨#[]⟩ : ByteArray)))) = some r := H
 have A2 := Aside0.mk A20
 clear A20
 by_cases c3 : (t103.size : Int) > 100
 ·rw [if_pos c3] at H
  have c3b0 : decide (100 < (t103.size : Int)) = true := decide_eq_true c3
  have c3b1 : decide (100 < t103.size) = true := decide_eq_true (by omega)
  clear c3
  replace H := Option.bind_eq_some_iff.mp H
  obtain ⟨t104, A40, H⟩ := H
  replace H : (if 0 + t104.size ≤ 9223372036854775807 then (if a0_1 = 4 then (if (a0_2.size : Int) > 100 then ((tar_Record.f (⟨#[108, 105, 110, 107, 112, 97, 116, 104]⟩ : ByteArray) a0_2).bind fun t105 => (if ((⟨#[]⟩ : ByteArray) ++ t104).size + t105.size ≤ 9223372036854775807 then (some (((⟨#[]⟩ : ByteArray) ++ t104) ++ t105)) else (none))) else (some ((⟨#[]⟩ : ByteArray) ++ t104))) else (some ((⟨#[]⟩ : ByteArray) ++ t104))) else (none)) = some r := H
  have A4 := Aside0.mk A40
  clear A40
  by_cases c5 : 0 + t104.size ≤ 9223372036854775807
  ·rw [if_pos c5] at H
   have c5b0 := eq_true c5
   have c5b1 : decide (0 + t104.size ≤ 9223372036854775807) = true := decide_eq_true c5
   try have c5b2 : (9223372036854775807 < 0 + t104.size) = False := eq_false (Nat.not_lt.2 c5)
   have Sc5 := Aside0.mk c5
   clear c5
   by_cases c6 : a0_1 = 4
   ·rw [if_pos c6] at H
    have c6b0 : (a0_1 == 4) = true := beq_iff_eq.mpr c6
    have c6b1 : (a0_1 != 4) = false := bne_eq_false_iff_eq.mpr c6
    clear c6
    by_cases c7 : (a0_2.size : Int) > 100
    ·rw [if_pos c7] at H
     have c7b0 : decide (100 < (a0_2.size : Int)) = true := decide_eq_true c7
     have c7b1 : decide (100 < a0_2.size) = true := decide_eq_true (by omega)
     clear c7
     replace H := Option.bind_eq_some_iff.mp H
     obtain ⟨t105, A80, H⟩ := H
     replace H : (if ((⟨#[]⟩ : ByteArray) ++ t104).size + t105.size ≤ 9223372036854775807 then (some (((⟨#[]⟩ : ByteArray) ++ t104) ++ t105)) else (none)) = some r := H
     have A8 := Aside0.mk A80
     clear A80
     by_cases c9 : ((⟨#[]⟩ : ByteArray) ++ t104).size + t105.size ≤ 9223372036854775807
     ·rw [if_pos c9] at H
      have c9b0 := eq_true c9
      have c9b1 : decide (((⟨#[]⟩ : ByteArray) ++ t104).size + t105.size ≤ 9223372036854775807) = true := decide_eq_true c9
      try have c9b2 : (9223372036854775807 < ((⟨#[]⟩ : ByteArray) ++ t104).size + t105.size) = False := eq_false (Nat.not_lt.2 c9)
      have Sc9 := Aside0.mk c9
      clear c9
      obtain rfl := Option.some.inj H
      go_enter Tryz.func58, Tryz.ntmps58
      go_wp2_with (first | ((with_reducible refine gate_dst (N := 1) rfl ?_); (try (refine gate_guard (by rfl) ?_; dsimp only)); refine box_event ?hg (N := 1) ?hd (cs := #[.string a0_0, .int .i64 a0_1, .string a0_2]) (t := 47) ?hr ?_; (case hd => rfl); (case hg => rfl); (case hr => first | (go_simp; done) | (go_simp; rfl)); intro gb102 hg w10 hbox hb; have n0_ := Aside0.mk (below_step (by repeat (first | (with_reducible first | exact HB.out | apply below_alloc | apply pw_below_drewN | apply below_drew1) | exact HB.out)) hb); have n1_ := Aside0.mk (hbox); have n2_ := Aside0.mk ((by rw [hg]; exact (below_size (by repeat (first | (with_reducible first | exact HB.out | apply below_alloc | apply pw_below_drewN | apply below_drew1) | exact HB.out))) : w.heap.size ≤ gb102)); have n3_ := Aside0.mk ((by rw [hg]; exact (below_size (by repeat (first | (with_reducible first | exact HB.out | apply below_alloc | apply pw_below_drewN | apply below_drew1) | exact HB.out))) : w.heap.size ≤ gb102)); clear HB; have HB := n0_; have BK102 := n1_; have GW102 := n2_; have GE102 := n3_; clear n0_ n1_ n2_ n3_; clear hb hbox hg; have hcz11_0 : w10.cell? ⟨gb102, 0, none⟩ = some (.string a0_0) := (blk_cell BK102.out 0).trans rfl; have hcz11_1 : w10.cell? ⟨gb102, 1, none⟩ = some (.int .i64 a0_1) := (blk_cell BK102.out 1).trans rfl; have hcz11_2 : w10.cell? ⟨gb102, 2, none⟩ = some (.string a0_2) := (blk_cell BK102.out 2).trans rfl; have hfz11_0 := blk_frozen BK102.out 0; have hfz11_1 := blk_frozen BK102.out 1; have hfz11_2 := blk_frozen BK102.out 2) | ((with_reducible refine gate_callee (f := 61) rfl ?_); refine goesL_ (some 6) rfl rfl Tryz.func61 (by kernel_rfl) rfl #[.agg #[.string a0_0, .int .i64 a0_1, .string a0_2]] rfl (by (try simp only [List.map_toArray, List.map_cons, List.map_nil]); first | done | rfl | (simp only [List.length_drop, List.length_take]; rfl)) ?_; (with_reducible refine (tar_name.calls a0_0 a0_1 a0_2 t103 _ A2.out).mono ?_); rintro e w12 ⟨rfl, hb⟩; refine ⟨_, rfl, ?_⟩; have n0_ := Aside0.mk (blk_below (g := gb102) (o := .cells #[.string a0_0, .int .i64 a0_1, .string a0_2] 47 (0, 0)) (by (with_reducible repeat (first | refine blk_drewN ?_ _ | refine blk_drew ?_ | refine blk_alloc ?_ _)); exact BK102.out) hb); have n1_ := Aside0.mk (below_step (by repeat (first | (with_reducible first | exact HB.out | apply below_alloc | apply pw_below_drewN | apply below_drew1 | refine below_set ?_ GE102.out) | exact HB.out)) hb); clear BK102; clear HB; have BK102 := n0_; have HB := n1_; clear n0_ n1_; (try clear hb); (try clear hb2); (try clear hk); (try clear hi)) | ((with_reducible refine gate_callee (f := 14) rfl ?_); refine goesL_ (some 12) rfl rfl Tryz.func14 (by kernel_rfl) rfl #[.string (⟨#[112, 97, 116, 104]⟩ : ByteArray), .string t103] rfl (by (try simp only [List.map_toArray, List.map_cons, List.map_nil]); first | done | rfl | (simp only [List.length_drop, List.length_take]; rfl)) ?_; (with_reducible refine (tar_Record.calls (⟨#[112, 97, 116, 104]⟩ : ByteArray) t103 t104 _ ?side1 A4.out).mono ?_); (case side1 => exact ⟨Tabs.below hT.out (by repeat (first | (with_reducible first | exact HB.out | apply below_alloc | apply pw_below_drewN | apply below_drew1 | refine below_set ?_ GE102.out) | exact HB.out))⟩); rintro e w13 ⟨rfl, hb⟩; refine ⟨_, rfl, ?_⟩; have n0_ := Aside0.mk (blk_below (g := gb102) (o := .cells #[.string a0_0, .int .i64 a0_1, .string a0_2] 47 (0, 0)) (by (with_reducible repeat (first | refine blk_drewN ?_ _ | refine blk_drew ?_ | refine blk_alloc ?_ _)); exact BK102.out) hb); have n1_ := Aside0.mk (below_step (by repeat (first | (with_reducible first | exact HB.out | apply below_alloc | apply pw_below_drewN | apply below_drew1 | refine below_set ?_ GE102.out) | exact HB.out)) hb); clear BK102; clear HB; have BK102 := n0_; have HB := n1_; clear n0_ n1_; (try clear hb); (try clear hb2); (try clear hk); (try clear hi); have hcz14_0 : w13.cell? ⟨gb102, 0, none⟩ = some (.string a0_0) := (blk_cell BK102.out 0).trans rfl; have hcz14_1 : w13.cell? ⟨gb102, 1, none⟩ = some (.int .i64 a0_1) := (blk_cell BK102.out 1).trans rfl; have hcz14_2 : w13.cell? ⟨gb102, 2, none⟩ = some (.string a0_2) := (blk_cell BK102.out 2).trans rfl; have hfz14_0 := blk_frozen BK102.out 0; have hfz14_1 := blk_frozen BK102.out 1; have hfz14_2 := blk_frozen BK102.out 2) | ((with_reducible refine gate_callee (f := 14) rfl ?_); refine goesL_ (some 26) rfl rfl Tryz.func14 (by kernel_rfl) rfl #[.string (⟨#[108, 105, 110, 107, 112, 97, 116, 104]⟩ : ByteArray), .string a0_2] rfl (by (try simp only [List.map_toArray, List.map_cons, List.map_nil]); first | done | rfl | (simp only [List.length_drop, List.length_take]; rfl)) ?_; (with_reducible refine (tar_Record.calls (⟨#[108, 105, 110, 107, 112, 97, 116, 104]⟩ : ByteArray) a0_2 t105 _ ?side1 A8.out).mono ?_); (case side1 => exact ⟨Tabs.below hT.out (by repeat (first | (with_reducible first | exact HB.out | apply below_alloc | apply pw_below_drewN | apply below_drew1 | refine below_set ?_ GE102.out) | exact HB.out))⟩); rintro e w15 ⟨rfl, hb⟩; refine ⟨_, rfl, ?_⟩; have n0_ := Aside0.mk (blk_below (g := gb102) (o := .cells #[.string a0_0, .int .i64 a0_1, .string a0_2] 47 (0, 0)) (by (with_reducible repeat (first | refine blk_drewN ?_ _ | refine blk_drew ?_ | refine blk_alloc ?_ _)); exact BK102.out) hb); have n1_ := Aside0.mk (below_step (by repeat (first | (with_reducible first | exact HB.out | apply below_alloc | apply pw_below_drewN | apply below_drew1 | refine below_set ?_ GE102.out) | exact HB.out)) hb); clear BK102; clear HB; have BK102 := n0_; have HB := n1_; clear n0_ n1_; (try clear hb); (try clear hb2); (try clear hk); (try clear hi)))
      try any_goals (exfalso; have h_ := Sc5.out; rename_i hb_; (try simp only [ByteArray.size_extract, ByteArray.size_append] at h_ hb_); (try simp only [ByteArray.size, List.size_toArray, List.length_cons, List.length_nil] at h_ hb_); omega)
      try any_goals (exfalso; have h_ := Sc9.out; rename_i hb_; (try simp only [ByteArray.size_extract, ByteArray.size_append] at h_ hb_); (try simp only [ByteArray.size, List.size_toArray, List.length_cons, List.length_nil] at h_ hb_); omega)
      go_ret
      exact ⟨by first | rfl | (simp [errW_none, errW_some] <;> rfl) | (simp [*, errW_none, errW_some] <;> rfl), by repeat (first | (with_reducible first | exact HB.out | apply below_alloc | apply pw_below_drewN | apply below_drew1 | refine below_set ?_ GE102.out) | exact HB.out)⟩
     ·rw [if_neg c9] at H
      exact absurd H (by simp)
    ·rw [if_neg c7] at H
     have c7b0 : decide (100 < (a0_2.size : Int)) = false := decide_eq_false c7
     have c7b1 : decide (100 < a0_2.size) = false := decide_eq_false (by omega)
     clear c7
     obtain rfl := Option.some.inj H
     go_enter Tryz.func58, Tryz.ntmps58
     go_wp2_with (first | ((with_reducible refine gate_dst (N := 1) rfl ?_); (try (refine gate_guard (by rfl) ?_; dsimp only)); refine box_event ?hg (N := 1) ?hd (cs := #[.string a0_0, .int .i64 a0_1, .string a0_2]) (t := 47) ?hr ?_; (case hd => rfl); (case hg => rfl); (case hr => first | (go_simp; done) | (go_simp; rfl)); intro gb102 hg w16 hbox hb; have n0_ := Aside0.mk (below_step (by repeat (first | (with_reducible first | exact HB.out | apply below_alloc | apply pw_below_drewN | apply below_drew1) | exact HB.out)) hb); have n1_ := Aside0.mk (hbox); have n2_ := Aside0.mk ((by rw [hg]; exact (below_size (by repeat (first | (with_reducible first | exact HB.out | apply below_alloc | apply pw_below_drewN | apply below_drew1) | exact HB.out))) : w.heap.size ≤ gb102)); have n3_ := Aside0.mk ((by rw [hg]; exact (below_size (by repeat (first | (with_reducible first | exact HB.out | apply below_alloc | apply pw_below_drewN | apply below_drew1) | exact HB.out))) : w.heap.size ≤ gb102)); clear HB; have HB := n0_; have BK102 := n1_; have GW102 := n2_; have GE102 := n3_; clear n0_ n1_ n2_ n3_; clear hb hbox hg; have hcz17_0 : w16.cell? ⟨gb102, 0, none⟩ = some (.string a0_0) := (blk_cell BK102.out 0).trans rfl; have hcz17_1 : w16.cell? ⟨gb102, 1, none⟩ = some (.int .i64 a0_1) := (blk_cell BK102.out 1).trans rfl; have hcz17_2 : w16.cell? ⟨gb102, 2, none⟩ = some (.string a0_2) := (blk_cell BK102.out 2).trans rfl; have hfz17_0 := blk_frozen BK102.out 0; have hfz17_1 := blk_frozen BK102.out 1; have hfz17_2 := blk_frozen BK102.out 2) | ((with_reducible refine gate_callee (f := 61) rfl ?_); refine goesL_ (some 6) rfl rfl Tryz.func61 (by kernel_rfl) rfl #[.agg #[.string a0_0, .int .i64 a0_1, .string a0_2]] rfl (by (try simp only [List.map_toArray, List.map_cons, List.map_nil]); first | done | rfl | (simp only [List.length_drop, List.length_take]; rfl)) ?_; (with_reducible refine (tar_name.calls a0_0 a0_1 a0_2 t103 _ A2.out).mono ?_); rintro e w18 ⟨rfl, hb⟩; refine ⟨_, rfl, ?_⟩; have n0_ := Aside0.mk (blk_below (g := gb102) (o := .cells #[.string a0_0, .int .i64 a0_1, .string a0_2] 47 (0, 0)) (by (with_reducible repeat (first | refine blk_drewN ?_ _ | refine blk_drew ?_ | refine blk_alloc ?_ _)); exact BK102.out) hb); have n1_ := Aside0.mk (below_step (by repeat (first | (with_reducible first | exact HB.out | apply below_alloc | apply pw_below_drewN | apply below_drew1 | refine below_set ?_ GE102.out) | exact HB.out)) hb); clear BK102; clear HB; have BK102 := n0_; have HB := n1_; clear n0_ n1_; (try clear hb); (try clear hb2); (try clear hk); (try clear hi)) | ((with_reducible refine gate_callee (f := 14) rfl ?_); refine goesL_ (some 12) rfl rfl Tryz.func14 (by kernel_rfl) rfl #[.string (⟨#[112, 97, 116, 104]⟩ : ByteArray), .string t103] rfl (by (try simp only [List.map_toArray, List.map_cons, List.map_nil]); first | done | rfl | (simp only [List.length_drop, List.length_take]; rfl)) ?_; (with_reducible refine (tar_Record.calls (⟨#[112, 97, 116, 104]⟩ : ByteArray) t103 t104 _ ?side1 A4.out).mono ?_); (case side1 => exact ⟨Tabs.below hT.out (by repeat (first | (with_reducible first | exact HB.out | apply below_alloc | apply pw_below_drewN | apply below_drew1 | refine below_set ?_ GE102.out) | exact HB.out))⟩); rintro e w19 ⟨rfl, hb⟩; refine ⟨_, rfl, ?_⟩; have n0_ := Aside0.mk (blk_below (g := gb102) (o := .cells #[.string a0_0, .int .i64 a0_1, .string a0_2] 47 (0, 0)) (by (with_reducible repeat (first | refine blk_drewN ?_ _ | refine blk_drew ?_ | refine blk_alloc ?_ _)); exact BK102.out) hb); have n1_ := Aside0.mk (below_step (by repeat (first | (with_reducible first | exact HB.out | apply below_alloc | apply pw_below_drewN | apply below_drew1 | refine below_set ?_ GE102.out) | exact HB.out)) hb); clear BK102; clear HB; have BK102 := n0_; have HB := n1_; clear n0_ n1_; (try clear hb); (try clear hb2); (try clear hk); (try clear hi); have hcz20_0 : w19.cell? ⟨gb102, 0, none⟩ = some (.string a0_0) := (blk_cell BK102.out 0).trans rfl; have hcz20_1 : w19.cell? ⟨gb102, 1, none⟩ = some (.int .i64 a0_1) := (blk_cell BK102.out 1).trans rfl; have hcz20_2 : w19.cell? ⟨gb102, 2, none⟩ = some (.string a0_2) := (blk_cell BK102.out 2).trans rfl; have hfz20_0 := blk_frozen BK102.out 0; have hfz20_1 := blk_frozen BK102.out 1; have hfz20_2 := blk_frozen BK102.out 2))
     try any_goals (exfalso; have h_ := Sc5.out; rename_i hb_; (try simp only [ByteArray.size_extract, ByteArray.size_append] at h_ hb_); (try simp only [ByteArray.size, List.size_toArray, List.length_cons, List.length_nil] at h_ hb_); omega)
     go_ret
     exact ⟨by first | rfl | (simp [errW_none, errW_some] <;> rfl) | (simp [*, errW_none, errW_some] <;> rfl), by repeat (first | (with_reducible first | exact HB.out | apply below_alloc | apply pw_below_drewN | apply below_drew1 | refine below_set ?_ GE102.out) | exact HB.out)⟩
   ·rw [if_neg c6] at H
    have c6b0 : (a0_1 == 4) = false := beq_eq_false_iff_ne.mpr c6
    have c6b1 : (a0_1 != 4) = true := bne_iff_ne.mpr c6
    obtain rfl := Option.some.inj H
    go_enter Tryz.func58, Tryz.ntmps58
    go_wp2_with (first | ((with_reducible refine gate_dst (N := 1) rfl ?_); (try (refine gate_guard (by rfl) ?_; dsimp only)); refine box_event ?hg (N := 1) ?hd (cs := #[.string a0_0, .int .i64 a0_1, .string a0_2]) (t := 47) ?hr ?_; (case hd => rfl); (case hg => rfl); (case hr => first | (go_simp; done) | (go_simp; rfl)); intro gb102 hg w21 hbox hb; have n0_ := Aside0.mk (below_step (by repeat (first | (with_reducible first | exact HB.out | apply below_alloc | apply pw_below_drewN | apply below_drew1) | exact HB.out)) hb); have n1_ := Aside0.mk (hbox); have n2_ := Aside0.mk ((by rw [hg]; exact (below_size (by repeat (first | (with_reducible first | exact HB.out | apply below_alloc | apply pw_below_drewN | apply below_drew1) | exact HB.out))) : w.heap.size ≤ gb102)); have n3_ := Aside0.mk ((by rw [hg]; exact (below_size (by repeat (first | (with_reducible first | exact HB.out | apply below_alloc | apply pw_below_drewN | apply below_drew1) | exact HB.out))) : w.heap.size ≤ gb102)); clear HB; have HB := n0_; have BK102 := n1_; have GW102 := n2_; have GE102 := n3_; clear n0_ n1_ n2_ n3_; clear hb hbox hg; have hcz22_0 : w21.cell? ⟨gb102, 0, none⟩ = some (.string a0_0) := (blk_cell BK102.out 0).trans rfl; have hcz22_1 : w21.cell? ⟨gb102, 1, none⟩ = some (.int .i64 a0_1) := (blk_cell BK102.out 1).trans rfl; have hcz22_2 : w21.cell? ⟨gb102, 2, none⟩ = some (.string a0_2) := (blk_cell BK102.out 2).trans rfl; have hfz22_0 := blk_frozen BK102.out 0; have hfz22_1 := blk_frozen BK102.out 1; have hfz22_2 := blk_frozen BK102.out 2) | ((with_reducible refine gate_callee (f := 61) rfl ?_); refine goesL_ (some 6) rfl rfl Tryz.func61 (by kernel_rfl) rfl #[.agg #[.string a0_0, .int .i64 a0_1, .string a0_2]] rfl (by (try simp only [List.map_toArray, List.map_cons, List.map_nil]); first | done | rfl | (simp only [List.length_drop, List.length_take]; rfl)) ?_; (with_reducible refine (tar_name.calls a0_0 a0_1 a0_2 t103 _ A2.out).mono ?_); rintro e w23 ⟨rfl, hb⟩; refine ⟨_, rfl, ?_⟩; have n0_ := Aside0.mk (blk_below (g := gb102) (o := .cells #[.string a0_0, .int .i64 a0_1, .string a0_2] 47 (0, 0)) (by (with_reducible repeat (first | refine blk_drewN ?_ _ | refine blk_drew ?_ | refine blk_alloc ?_ _)); exact BK102.out) hb); have n1_ := Aside0.mk (below_step (by repeat (first | (with_reducible first | exact HB.out | apply below_alloc | apply pw_below_drewN | apply below_drew1 | refine below_set ?_ GE102.out) | exact HB.out)) hb); clear BK102; clear HB; have BK102 := n0_; have HB := n1_; clear n0_ n1_; (try clear hb); (try clear hb2); (try clear hk); (try clear hi)) | ((with_reducible refine gate_callee (f := 14) rfl ?_); refine goesL_ (some 12) rfl rfl Tryz.func14 (by kernel_rfl) rfl #[.string (⟨#[112, 97, 116, 104]⟩ : ByteArray), .string t103] rfl (by (try simp only [List.map_toArray, List.map_cons, List.map_nil]); first | done | rfl | (simp only [List.length_drop, List.length_take]; rfl)) ?_; (with_reducible refine (tar_Record.calls (⟨#[112, 97, 116, 104]⟩ : ByteArray) t103 t104 _ ?side1 A4.out).mono ?_); (case side1 => exact ⟨Tabs.below hT.out (by repeat (first | (with_reducible first | exact HB.out | apply below_alloc | apply pw_below_drewN | apply below_drew1 | refine below_set ?_ GE102.out) | exact HB.out))⟩); rintro e w24 ⟨rfl, hb⟩; refine ⟨_, rfl, ?_⟩; have n0_ := Aside0.mk (blk_below (g := gb102) (o := .cells #[.string a0_0, .int .i64 a0_1, .string a0_2] 47 (0, 0)) (by (with_reducible repeat (first | refine blk_drewN ?_ _ | refine blk_drew ?_ | refine blk_alloc ?_ _)); exact BK102.out) hb); have n1_ := Aside0.mk (below_step (by repeat (first | (with_reducible first | exact HB.out | apply below_alloc | apply pw_below_drewN | apply below_drew1 | refine below_set ?_ GE102.out) | exact HB.out)) hb); clear BK102; clear HB; have BK102 := n0_; have HB := n1_; clear n0_ n1_; (try clear hb); (try clear hb2); (try clear hk); (try clear hi); have hcz25_0 : w24.cell? ⟨gb102, 0, none⟩ = some (.string a0_0) := (blk_cell BK102.out 0).trans rfl; have hcz25_1 : w24.cell? ⟨gb102, 1, none⟩ = some (.int .i64 a0_1) := (blk_cell BK102.out 1).trans rfl; have hcz25_2 : w24.cell? ⟨gb102, 2, none⟩ = some (.string a0_2) := (blk_cell BK102.out 2).trans rfl; have hfz25_0 := blk_frozen BK102.out 0; have hfz25_1 := blk_frozen BK102.out 1; have hfz25_2 := blk_frozen BK102.out 2))
    try any_goals (exfalso; have h_ := Sc5.out; rename_i hb_; (try simp only [ByteArray.size_extract, ByteArray.size_append] at h_ hb_); (try simp only [ByteArray.size, List.size_toArray, List.length_cons, List.length_nil] at h_ hb_); omega)
    go_ret
    exact ⟨by first | rfl | (simp [errW_none, errW_some] <;> rfl) | (simp [*, errW_none, errW_some] <;> rfl), by repeat (first | (with_reducible first | exact HB.out | apply below_alloc | apply pw_below_drewN | apply below_drew1 | refine below_set ?_ GE102.out) | exact HB.out)⟩
  ·rw [if_neg c5] at H
   exact absurd H (by simp)
 ·rw [if_neg c3] at H
  have c3b0 : decide (100 < (t103.size : Int)) = false := decide_eq_false c3
  have c3b1 : decide (100 < t103.size) = false := decide_eq_false (by omega)
  clear c3
  by_cases c26 : a0_1 = 4
  ·rw [if_pos c26] at H
   have c26b0 : (a0_1 == 4) = true := beq_iff_eq.mpr c26
   have c26b1 : (a0_1 != 4) = false := bne_eq_false_iff_eq.mpr c26
   clear c26
   by_cases c27 : (a0_2.size : Int) > 100
   ·rw [if_pos c27] at H
    have c27b0 : decide (100 < (a0_2.size : Int)) = true := decide_eq_true c27
    have c27b1 : decide (100 < a0_2.size) = true := decide_eq_true (by omega)
    clear c27
    replace H := Option.bind_eq_some_iff.mp H
    obtain ⟨t106, A280, H⟩ := H
    replace H : (if 0 + t106.size ≤ 9223372036854775807 then (some ((⟨#[]⟩ : ByteArray) ++ t106)) else (none)) = some r := H
    have A28 := Aside0.mk A280
    clear A280
    by_cases c29 : 0 + t106.size ≤ 9223372036854775807
    ·rw [if_pos c29] at H
     have c29b0 := eq_true c29
     have c29b1 : decide (0 + t106.size ≤ 9223372036854775807) = true := decide_eq_true c29
     try have c29b2 : (9223372036854775807 < 0 + t106.size) = False := eq_false (Nat.not_lt.2 c29)
     have Sc29 := Aside0.mk c29
     clear c29
     obtain rfl := Option.some.inj H
     go_enter Tryz.func58, Tryz.ntmps58
     go_wp2_with (first | ((with_reducible refine gate_dst (N := 1) rfl ?_); (try (refine gate_guard (by rfl) ?_; dsimp only)); refine box_event ?hg (N := 1) ?hd (cs := #[.string a0_0, .int .i64 a0_1, .string a0_2]) (t := 47) ?hr ?_; (case hd => rfl); (case hg => rfl); (case hr => first | (go_simp; done) | (go_simp; rfl)); intro gb102 hg w30 hbox hb; have n0_ := Aside0.mk (below_step (by repeat (first | (with_reducible first | exact HB.out | apply below_alloc | apply pw_below_drewN | apply below_drew1) | exact HB.out)) hb); have n1_ := Aside0.mk (hbox); have n2_ := Aside0.mk ((by rw [hg]; exact (below_size (by repeat (first | (with_reducible first | exact HB.out | apply below_alloc | apply pw_below_drewN | apply below_drew1) | exact HB.out))) : w.heap.size ≤ gb102)); have n3_ := Aside0.mk ((by rw [hg]; exact (below_size (by repeat (first | (with_reducible first | exact HB.out | apply below_alloc | apply pw_below_drewN | apply below_drew1) | exact HB.out))) : w.heap.size ≤ gb102)); clear HB; have HB := n0_; have BK102 := n1_; have GW102 := n2_; have GE102 := n3_; clear n0_ n1_ n2_ n3_; clear hb hbox hg; have hcz31_0 : w30.cell? ⟨gb102, 0, none⟩ = some (.string a0_0) := (blk_cell BK102.out 0).trans rfl; have hcz31_1 : w30.cell? ⟨gb102, 1, none⟩ = some (.int .i64 a0_1) := (blk_cell BK102.out 1).trans rfl; have hcz31_2 : w30.cell? ⟨gb102, 2, none⟩ = some (.string a0_2) := (blk_cell BK102.out 2).trans rfl; have hfz31_0 := blk_frozen BK102.out 0; have hfz31_1 := blk_frozen BK102.out 1; have hfz31_2 := blk_frozen BK102.out 2) | ((with_reducible refine gate_callee (f := 61) rfl ?_); refine goesL_ (some 6) rfl rfl Tryz.func61 (by kernel_rfl) rfl #[.agg #[.string a0_0, .int .i64 a0_1, .string a0_2]] rfl (by (try simp only [List.map_toArray, List.map_cons, List.map_nil]); first | done | rfl | (simp only [List.length_drop, List.length_take]; rfl)) ?_; (with_reducible refine (tar_name.calls a0_0 a0_1 a0_2 t103 _ A2.out).mono ?_); rintro e w32 ⟨rfl, hb⟩; refine ⟨_, rfl, ?_⟩; have n0_ := Aside0.mk (blk_below (g := gb102) (o := .cells #[.string a0_0, .int .i64 a0_1, .string a0_2] 47 (0, 0)) (by (with_reducible repeat (first | refine blk_drewN ?_ _ | refine blk_drew ?_ | refine blk_alloc ?_ _)); exact BK102.out) hb); have n1_ := Aside0.mk (below_step (by repeat (first | (with_reducible first | exact HB.out | apply below_alloc | apply pw_below_drewN | apply below_drew1 | refine below_set ?_ GE102.out) | exact HB.out)) hb); clear BK102; clear HB; have BK102 := n0_; have HB := n1_; clear n0_ n1_; (try clear hb); (try clear hb2); (try clear hk); (try clear hi); have hcz33_0 : w32.cell? ⟨gb102, 0, none⟩ = some (.string a0_0) := (blk_cell BK102.out 0).trans rfl; have hcz33_1 : w32.cell? ⟨gb102, 1, none⟩ = some (.int .i64 a0_1) := (blk_cell BK102.out 1).trans rfl; have hcz33_2 : w32.cell? ⟨gb102, 2, none⟩ = some (.string a0_2) := (blk_cell BK102.out 2).trans rfl; have hfz33_0 := blk_frozen BK102.out 0; have hfz33_1 := blk_frozen BK102.out 1; have hfz33_2 := blk_frozen BK102.out 2) | ((with_reducible refine gate_callee (f := 14) rfl ?_); refine goesL_ (some 26) rfl rfl Tryz.func14 (by kernel_rfl) rfl #[.string (⟨#[108, 105, 110, 107, 112, 97, 116, 104]⟩ : ByteArray), .string a0_2] rfl (by (try simp only [List.map_toArray, List.map_cons, List.map_nil]); first | done | rfl | (simp only [List.length_drop, List.length_take]; rfl)) ?_; (with_reducible refine (tar_Record.calls (⟨#[108, 105, 110, 107, 112, 97, 116, 104]⟩ : ByteArray) a0_2 t106 _ ?side1 A28.out).mono ?_); (case side1 => exact ⟨Tabs.below hT.out (by repeat (first | (with_reducible first | exact HB.out | apply below_alloc | apply pw_below_drewN | apply below_drew1 | refine below_set ?_ GE102.out) | exact HB.out))⟩); rintro e w34 ⟨rfl, hb⟩; refine ⟨_, rfl, ?_⟩; have n0_ := Aside0.mk (blk_below (g := gb102) (o := .cells #[.string a0_0, .int .i64 a0_1, .string a0_2] 47 (0, 0)) (by (with_reducible repeat (first | refine blk_drewN ?_ _ | refine blk_drew ?_ | refine blk_alloc ?_ _)); exact BK102.out) hb); have n1_ := Aside0.mk (below_step (by repeat (first | (with_reducible first | exact HB.out | apply below_alloc | apply pw_below_drewN | apply below_drew1 | refine below_set ?_ GE102.out) | exact HB.out)) hb); clear BK102; clear HB; have BK102 := n0_; have HB := n1_; clear n0_ n1_; (try clear hb); (try clear hb2); (try clear hk); (try clear hi)))
     try any_goals (exfalso; have h_ := Sc29.out; rename_i hb_; (try simp only [ByteArray.size_extract, ByteArray.size_append] at h_ hb_); (try simp only [ByteArray.size, List.size_toArray, List.length_cons, List.length_nil] at h_ hb_); omega)
     go_ret
     exact ⟨by first | rfl | (simp [errW_none, errW_some] <;> rfl) | (simp [*, errW_none, errW_some] <;> rfl), by repeat (first | (with_reducible first | exact HB.out | apply below_alloc | apply pw_below_drewN | apply below_drew1 | refine below_set ?_ GE102.out) | exact HB.out)⟩
    ·rw [if_neg c29] at H
     exact absurd H (by simp)
   ·rw [if_neg c27] at H
    have c27b0 : decide (100 < (a0_2.size : Int)) = false := decide_eq_false c27
    have c27b1 : decide (100 < a0_2.size) = false := decide_eq_false (by omega)
    clear c27
    obtain rfl := Option.some.inj H
    go_enter Tryz.func58, Tryz.ntmps58
    go_wp2_with (first | ((with_reducible refine gate_dst (N := 1) rfl ?_); (try (refine gate_guard (by rfl) ?_; dsimp only)); refine box_event ?hg (N := 1) ?hd (cs := #[.string a0_0, .int .i64 a0_1, .string a0_2]) (t := 47) ?hr ?_; (case hd => rfl); (case hg => rfl); (case hr => first | (go_simp; done) | (go_simp; rfl)); intro gb102 hg w35 hbox hb; have n0_ := Aside0.mk (below_step (by repeat (first | (with_reducible first | exact HB.out | apply below_alloc | apply pw_below_drewN | apply below_drew1) | exact HB.out)) hb); have n1_ := Aside0.mk (hbox); have n2_ := Aside0.mk ((by rw [hg]; exact (below_size (by repeat (first | (with_reducible first | exact HB.out | apply below_alloc | apply pw_below_drewN | apply below_drew1) | exact HB.out))) : w.heap.size ≤ gb102)); have n3_ := Aside0.mk ((by rw [hg]; exact (below_size (by repeat (first | (with_reducible first | exact HB.out | apply below_alloc | apply pw_below_drewN | apply below_drew1) | exact HB.out))) : w.heap.size ≤ gb102)); clear HB; have HB := n0_; have BK102 := n1_; have GW102 := n2_; have GE102 := n3_; clear n0_ n1_ n2_ n3_; clear hb hbox hg; have hcz36_0 : w35.cell? ⟨gb102, 0, none⟩ = some (.string a0_0) := (blk_cell BK102.out 0).trans rfl; have hcz36_1 : w35.cell? ⟨gb102, 1, none⟩ = some (.int .i64 a0_1) := (blk_cell BK102.out 1).trans rfl; have hcz36_2 : w35.cell? ⟨gb102, 2, none⟩ = some (.string a0_2) := (blk_cell BK102.out 2).trans rfl; have hfz36_0 := blk_frozen BK102.out 0; have hfz36_1 := blk_frozen BK102.out 1; have hfz36_2 := blk_frozen BK102.out 2) | ((with_reducible refine gate_callee (f := 61) rfl ?_); refine goesL_ (some 6) rfl rfl Tryz.func61 (by kernel_rfl) rfl #[.agg #[.string a0_0, .int .i64 a0_1, .string a0_2]] rfl (by (try simp only [List.map_toArray, List.map_cons, List.map_nil]); first | done | rfl | (simp only [List.length_drop, List.length_take]; rfl)) ?_; (with_reducible refine (tar_name.calls a0_0 a0_1 a0_2 t103 _ A2.out).mono ?_); rintro e w37 ⟨rfl, hb⟩; refine ⟨_, rfl, ?_⟩; have n0_ := Aside0.mk (blk_below (g := gb102) (o := .cells #[.string a0_0, .int .i64 a0_1, .string a0_2] 47 (0, 0)) (by (with_reducible repeat (first | refine blk_drewN ?_ _ | refine blk_drew ?_ | refine blk_alloc ?_ _)); exact BK102.out) hb); have n1_ := Aside0.mk (below_step (by repeat (first | (with_reducible first | exact HB.out | apply below_alloc | apply pw_below_drewN | apply below_drew1 | refine below_set ?_ GE102.out) | exact HB.out)) hb); clear BK102; clear HB; have BK102 := n0_; have HB := n1_; clear n0_ n1_; (try clear hb); (try clear hb2); (try clear hk); (try clear hi); have hcz38_0 : w37.cell? ⟨gb102, 0, none⟩ = some (.string a0_0) := (blk_cell BK102.out 0).trans rfl; have hcz38_1 : w37.cell? ⟨gb102, 1, none⟩ = some (.int .i64 a0_1) := (blk_cell BK102.out 1).trans rfl; have hcz38_2 : w37.cell? ⟨gb102, 2, none⟩ = some (.string a0_2) := (blk_cell BK102.out 2).trans rfl; have hfz38_0 := blk_frozen BK102.out 0; have hfz38_1 := blk_frozen BK102.out 1; have hfz38_2 := blk_frozen BK102.out 2))
    go_ret
    exact ⟨by first | rfl | (simp [errW_none, errW_some] <;> rfl) | (simp [*, errW_none, errW_some] <;> rfl), by repeat (first | (with_reducible first | exact HB.out | apply below_alloc | apply pw_below_drewN | apply below_drew1 | refine below_set ?_ GE102.out) | exact HB.out)⟩
  ·rw [if_neg c26] at H
   have c26b0 : (a0_1 == 4) = false := beq_eq_false_iff_ne.mpr c26
   have c26b1 : (a0_1 != 4) = true := bne_iff_ne.mpr c26
   obtain rfl := Option.some.inj H
   go_enter Tryz.func58, Tryz.ntmps58
   go_wp2_with (first | ((with_reducible refine gate_dst (N := 1) rfl ?_); (try (refine gate_guard (by rfl) ?_; dsimp only)); refine box_event ?hg (N := 1) ?hd (cs := #[.string a0_0, .int .i64 a0_1, .string a0_2]) (t := 47) ?hr ?_; (case hd => rfl); (case hg => rfl); (case hr => first | (go_simp; done) | (go_simp; rfl)); intro gb102 hg w39 hbox hb; have n0_ := Aside0.mk (below_step (by repeat (first | (with_reducible first | exact HB.out | apply below_alloc | apply pw_below_drewN | apply below_drew1) | exact HB.out)) hb); have n1_ := Aside0.mk (hbox); have n2_ := Aside0.mk ((by rw [hg]; exact (below_size (by repeat (first | (with_reducible first | exact HB.out | apply below_alloc | apply pw_below_drewN | apply below_drew1) | exact HB.out))) : w.heap.size ≤ gb102)); have n3_ := Aside0.mk ((by rw [hg]; exact (below_size (by repeat (first | (with_reducible first | exact HB.out | apply below_alloc | apply pw_below_drewN | apply below_drew1) | exact HB.out))) : w.heap.size ≤ gb102)); clear HB; have HB := n0_; have BK102 := n1_; have GW102 := n2_; have GE102 := n3_; clear n0_ n1_ n2_ n3_; clear hb hbox hg; have hcz40_0 : w39.cell? ⟨gb102, 0, none⟩ = some (.string a0_0) := (blk_cell BK102.out 0).trans rfl; have hcz40_1 : w39.cell? ⟨gb102, 1, none⟩ = some (.int .i64 a0_1) := (blk_cell BK102.out 1).trans rfl; have hcz40_2 : w39.cell? ⟨gb102, 2, none⟩ = some (.string a0_2) := (blk_cell BK102.out 2).trans rfl; have hfz40_0 := blk_frozen BK102.out 0; have hfz40_1 := blk_frozen BK102.out 1; have hfz40_2 := blk_frozen BK102.out 2) | ((with_reducible refine gate_callee (f := 61) rfl ?_); refine goesL_ (some 6) rfl rfl Tryz.func61 (by kernel_rfl) rfl #[.agg #[.string a0_0, .int .i64 a0_1, .string a0_2]] rfl (by (try simp only [List.map_toArray, List.map_cons, List.map_nil]); first | done | rfl | (simp only [List.length_drop, List.length_take]; rfl)) ?_; (with_reducible refine (tar_name.calls a0_0 a0_1 a0_2 t103 _ A2.out).mono ?_); rintro e w41 ⟨rfl, hb⟩; refine ⟨_, rfl, ?_⟩; have n0_ := Aside0.mk (blk_below (g := gb102) (o := .cells #[.string a0_0, .int .i64 a0_1, .string a0_2] 47 (0, 0)) (by (with_reducible repeat (first | refine blk_drewN ?_ _ | refine blk_drew ?_ | refine blk_alloc ?_ _)); exact BK102.out) hb); have n1_ := Aside0.mk (below_step (by repeat (first | (with_reducible first | exact HB.out | apply below_alloc | apply pw_below_drewN | apply below_drew1 | refine below_set ?_ GE102.out) | exact HB.out)) hb); clear BK102; clear HB; have BK102 := n0_; have HB := n1_; clear n0_ n1_; (try clear hb); (try clear hb2); (try clear hk); (try clear hi); have hcz42_0 : w41.cell? ⟨gb102, 0, none⟩ = some (.string a0_0) := (blk_cell BK102.out 0).trans rfl; have hcz42_1 : w41.cell? ⟨gb102, 1, none⟩ = some (.int .i64 a0_1) := (blk_cell BK102.out 1).trans rfl; have hcz42_2 : w41.cell? ⟨gb102, 2, none⟩ = some (.string a0_2) := (blk_cell BK102.out 2).trans rfl; have hfz42_0 := blk_frozen BK102.out 0; have hfz42_1 := blk_frozen BK102.out 1; have hfz42_2 := blk_frozen BK102.out 2))
   go_ret
   exact ⟨by first | rfl | (simp [errW_none, errW_some] <;> rfl) | (simp [*, errW_none, errW_some] <;> rfl), by repeat (first | (with_reducible first | exact HB.out | apply below_alloc | apply pw_below_drewN | apply below_drew1 | refine below_set ?_ GE102.out) | exact HB.out)⟩
end Go.Proofs.YtdijnmcfpbceaaaGreatDoor.P

namespace Go.Proofs.YtdijnmcfpbceaaaGreatDoor.P
open Go.Proofs.YtdijnmcfpbceaaaGreatDoor.X
open Go.RowKit Go.Proofs.YtdijnmcfpbceaaaGreatDoorW.PrintWords Go.Proofs.YtdijnmcfpbceaaaGreatDoorW.PrintLast Go.Proofs.YtdijnmcfpbceaaaGreatDoorW.PrintMore
attribute [local go_sem] min2_int min_two
set_option linter.unusedVariables false
set_option linter.unusedSimpArgs false
def tar_cut.f (a0 : ByteArray) : Option (ByteArray) := if 0 ≤ (mn (a0.size : Int) 100) then (if (mn (a0.size : Int) 100) ≤ (a0.size : Int) then (some (a0.extract 0 ((mn (a0.size : Int) 100) : Int).toNat)) else (none)) else (none)
set_option maxHeartbeats 8000000 in
set_option maxRecDepth 100000 in
theorem tar_cut.calls (a0 : ByteArray) (r : ByteArray) (w : World) (h : tar_cut.f a0 = some r) :
  Calls Tryz.prog 60 #[.string a0] w fun e w' => e = .returned (.string r) ∧ Below w.heap.size w w' := by
 have HB := Aside0.mk (Below.refl w.heap.size w)
 have H : (if 0 ≤ (mn (a0.size : Int) 100) then (if (mn (a0.size : Int) 100) ≤ (a0.size : Int) then (some (a0.extract 0 ((mn (a0.size : Int) 100) : Int).toNat)) else (none)) else (none)) = some r := h
 clear h
 obtain ⟨ji2, hji2⟩ : ∃ j_ : Int, (mn (a0.size : Int) 100) = j_ := ⟨_, rfl⟩
 replace H : (if 0 ≤ (ji2) then (if (ji2) ≤ (a0.size : Int) then (some (a0.extract 0 ((ji2) : Int).toNat)) else (none)) else (none)) = some r := by first | (rw [hji2] at H; exact H) | (simp only [hji2] at H ⊢; exact H)
 (try (have hji2h : ji2 ≤ 100 := by (rw [← hji2]; unfold mn; (repeat' split) <;> omega)))
 (try (have hji2g : ji2 ≤ 64 := by omega))
 (try (have hji2l : 0 ≤ ji2 := by (rw [← hji2]; unfold mn; (repeat' split) <;> omega)))
 (try (have hji2m : 0 ≤ ji2 := by omega))
 have hji2_ : (if 100 < (a0.size : Int) then 100 else (a0.size : Int)) = ji2 := hji2
 by_cases c3 : 0 ≤ (ji2)
 ·rw [if_pos c3] at H
  have c3b0 := eq_true c3
  have c3b1 : decide (0 ≤ (ji2)) = true := decide_eq_true c3
  clear c3
  by_cases c4 : (ji2) ≤ (a0.size : Int)
  ·rw [if_pos c4] at H
   have c4b0 := eq_true c4
   have c4b1 : decide ((ji2) ≤ (a0.size : Int)) = true := decide_eq_true c4
   clear c4
   obtain rfl := Option.some.inj H
   go_enter Tryz.func60, Tryz.ntmps60
   go_wp2
   go_ret
   exact ⟨by first | rfl | (simp [errW_none, errW_some] <;> rfl) | (simp only [← hji2]; first | rfl | (simp [errW_none, errW_some] <;> rfl)) | (simp [*, errW_none, errW_some] <;> rfl), by repeat (first | (with_reducible first | exact HB.out | apply below_alloc | apply pw_below_drewN | apply below_drew1) | exact HB.out)⟩
  ·rw [if_neg c4] at H
   exact absurd H (by simp)
 ·rw [if_neg c3] at H
  exact absurd H (by simp)
end Go.Proofs.YtdijnmcfpbceaaaGreatDoor.P

namespace Go.Proofs.YtdijnmcfpbceaaaGreatDoor.X
open Go.RowKit Go.Proofs.YtdijnmcfpbceaaaGreatDoorW.PrintWords Go.Proofs.YtdijnmcfpbceaaaGreatDoorW.PrintLast Go.Proofs.YtdijnmcfpbceaaaGreatDoorW.PrintMore Go.Proofs.YtdijnmcfpbceaaaGreatDoor.P
set_option linter.unusedVariables false
set_option linter.unusedSimpArgs false
theorem name_eq (n : S47) : tar_name.f n.f0 n.f1 n.f2 = some (nameN n) := by
  unfold tar_name.f nameN
  by_cases h : n.f0.size = 0
  · rw [if_pos ((toList_nil _).2 h), if_pos h]
  · rw [if_neg (fun e => h ((toList_nil _).1 e)), if_neg h]
theorem cut_eq (s : ByteArray) : tar_cut.f s = some (cutS s) := by
  unfold tar_cut.f cutS
  have e : mn (s.size : Int) 100 = ((min s.size 100 : Nat) : Int) := by
    unfold mn
    omega
  rw [e, if_pos (by omega), if_pos (by omega), Int.toNat_natCast]
theorem empty_append (s : ByteArray) : (⟨#[]⟩ : ByteArray) ++ s = s := by
  apply toList_extA
  rw [ByteArray.toList_data_append]
  rfl
theorem append_empty (s : ByteArray) : s ++ (⟨#[]⟩ : ByteArray) = s := by
  apply toList_extA
  rw [ByteArray.toList_data_append]
  simp
theorem extra_eq (n : S47) (h0 : n.f0.size ≤ 1000) (h2 : n.f2.size ≤ 1000) : tar_extra.f n.f0 n.f1 n.f2 = some (extraN n) := by
  unfold tar_extra.f extraN
  rw [name_eq]
  simp only [Option.bind_some]
  have hn : (nameN n).size ≤ 1000 := by
    unfold nameN
    split
    · exact (by decide : (⟨#[46]⟩ : ByteArray).size ≤ 1000)
    · exact h0
  generalize nameN n = p at *
  have hr : ∀ a b : ByteArray, a.size ≤ 10 → b.size ≤ 1000 → tar_Record.f a b = some (recT a b) ∧ (recT a b).size ≤ 3000 := fun a b ha hb => by
    refine ⟨by unfold tar_Record.f; rw [if_pos (by omega)], ?_⟩
    rw [recT_eq, ByteArray.size_append, decT_size, restT_size]
    have h1 := lenD_le 5 (recM (a.size + b.size + 3)) (by
      have h2 := (recM_gt (a.size + b.size + 3) (by omega)).2
      have : (10 : Nat) ^ (5 + 1) = 1000000 := by decide
      omega)
    omega
  obtain ⟨a1, a2⟩ := hr ⟨#[112, 97, 116, 104]⟩ p (by decide) hn
  obtain ⟨b1, b2⟩ := hr ⟨#[108, 105, 110, 107, 112, 97, 116, 104]⟩ n.f2 (by decide) h2
  rw [a1, b1]
  simp only [Option.bind_some, empty_append]
  have c1 : 0 + (recT ⟨#[112, 97, 116, 104]⟩ p).size ≤ 9223372036854775807 := by omega
  have c2 : (recT ⟨#[112, 97, 116, 104]⟩ p).size + (recT ⟨#[108, 105, 110, 107, 112, 97, 116, 104]⟩ n.f2).size ≤ 9223372036854775807 := by omega
  have c3 : 0 + (recT ⟨#[108, 105, 110, 107, 112, 97, 116, 104]⟩ n.f2).size ≤ 9223372036854775807 := by omega
  rw [if_pos c1, if_pos c2, if_pos c3]
  by_cases d1 : 100 < p.size
  · have d1' : (p.size : Int) > 100 := by omega
    rw [if_pos d1', if_pos d1]
    by_cases d2 : n.f1 = 4
    · by_cases d3 : 100 < n.f2.size
      · rw [if_pos d2, if_pos (by omega), if_pos ⟨d2, d3⟩]
      · rw [if_pos d2, if_neg (by omega), if_neg (fun e => d3 e.2), append_empty]
    · rw [if_neg d2, if_neg (fun e => d2 e.1), append_empty]
  · have d1' : ¬ (p.size : Int) > 100 := by omega
    rw [if_neg d1', if_neg d1]
    by_cases d2 : n.f1 = 4
    · by_cases d3 : 100 < n.f2.size
      · rw [if_pos d2, if_pos (by omega), if_pos ⟨d2, d3⟩, empty_append]
      · rw [if_pos d2, if_neg (by omega), if_neg (fun e => d3 e.2), append_empty]
    · rw [if_neg d2, if_neg (fun e => d2 e.1), append_empty]
section
variable {P : Program} {ops : Array Oper} {rest : List Oper} {o : Oper} {a : Act} {Q : Exit → Act → World → Prop}
theorem zero_nums (m : Nat) : (Builtin.zeroCells (Value.int .u8 0).cells m).toList = nums .u8 (List.replicate m 0) := by
  apply List.ext_getElem
  · simp [Builtin.zeroCells, nums, Value.cells]
  · intro i h1 h2
    simp [Builtin.zeroCells, nums, Value.cells, Nat.mod_one]
theorem append_zerosG {w0 W : World} (base : Nat) (hgd : o.guard = none) (s x : Operand) (t ti e : TypeId) {k : IntKind}
    (ho : o.op = .call { callee := .builtin .append, args := #[s, x], argTypes := #[t, ti] })
    (ht : P.underlying t = some (.slice e)) (hti : P.underlying ti = some (.int k)) (hinfo : (P.info? e).map (fun i => (i.zero, i.size, i.bytes)) = some (some (.int .u8 0), 1, 1))
    (v : Value) (n : Nat) (xs : List Int) (kx : IntKind) (m : Nat) (hs : a.eval s = v) (hx : a.eval x = .int kx m)
    (HO : W.ownsRow base e 1 v xs.length (nums .u8 xs)) (HB : Below base w0 W) (hbase : base ≤ W.heap.size) (hl : (xs.length + m) * 1 ≤ 140737488355328)
    (h : ∀ v1 w1, w1.ownsRow base e 1 v1 (xs ++ List.replicate m 0).length (nums .u8 (xs ++ List.replicate m 0)) → Below base w0 w1 → W.grownBy w1 v.ownBlock → wpList P ops Q rest (a.put o.dst v1) w1) :
    wpList P ops Q (o :: rest) a W := by
  obtain ⟨i0, hi, hzz⟩ := Option.map_eq_some_iff.1 hinfo
  simp only [Prod.mk.injEq] at hzz
  obtain ⟨hz0, hz1, hz2⟩ := hzz
  obtain ⟨v1, w1, hr1, h1, hg, _⟩ := run_append_zeros (P := P) W base t ti o.type e i0 (.int .u8 0) 1 1 ht hti hi hz0 hz1 hz2 rfl (by decide) (by decide) v xs.length (nums .u8 xs) HO kx m (by rw [zero_nums]; intro u hu; simp [nums] at hu; rw [hu.2]; rfl) hl hbase
  refine wpList_plain hgd fun K hK => ?_
  unfold Oper.wp execOp
  simp only [ho, resolve, invoke, builtin, Sem.run_bind, Sem.run_pure, Result.andThen_ok, List.map_toArray, List.map_cons, List.map_nil, hs, hx, hr1]
  refine hK _ _ (h v1 w1 ?_ (HB.grown hg hbase (own_base HO)) hg)
  rw [zero_nums] at h1
  rw [List.length_append, List.length_replicate, nums_append]
  exact h1
end
structure WrAt (w : World) (base gw : Nat) (v : Value) (xs : List Int) (e : Int) : Prop where
  cell : w.heap[gw]? = some (.cells #[v, .int .i64 e] 56 (0, 0))
  row : w.ownsRow base 5 1 v xs.length (nums .u8 xs)
def KeepU (gw : Nat) (w w' : World) : Prop := ∀ k cs t, k ≠ gw → t ≠ 5 → w.heap[k]? = some (.cells cs t (0, 0)) → w'.heap[k]? = some (.cells cs t (0, 0))
theorem KeepU.trans {gw : Nat} {w w1 w2 : World} (h : KeepU gw w w1) (g : KeepU gw w1 w2) : KeepU gw w w2 := fun k cs t hk ht he => g k cs t hk ht (h k cs t hk ht he)
theorem KeepU.below {gw : Nat} {w w1 : World} (h : Below w.heap.size w w1) : KeepU gw w w1 := fun k cs t _ _ he => blk_below he h
theorem KeepU.grown {gw : Nat} {w w1 : World} {base n : Nat} {v : Value} {xs : List Value} (ho : w.ownsRow base 5 1 v n xs) (hg : w.grownBy w1 v.ownBlock) : KeepU gw w w1 := fun k cs t _ ht he => (hg.block k (blk_lt he) (own_ne ho he (fun e => ht e.symm))).trans he
theorem KeepU.set (gw : Nat) (w : World) (i : Nat) (u : Value) : KeepU gw w (w.setCell ⟨gw, i, none⟩ u) := fun k cs t hk _ he => (Below.heap_setCell w ⟨gw, i, none⟩ u k hk).trans he
set_option maxHeartbeats 4000000 in
set_option maxRecDepth 100000 in
theorem entry_calls (base gw : Nat) (v : Value) (xs : List Int) (n : Int) (E : EntT) (w : World) (hT : Aside0 (Tabs w)) (h : WrAt w base gw v xs n) (hl : xs.length ≤ 1000000000) (hd : E.data.size ≤ 1000000) (h0 : 0 ≤ n) (hn : n ≤ 1000000) (hbase : base ≤ gw) :
    Calls Tryz.prog 59 #[.pointer (some ⟨gw, 0, none⟩), .string E.name, .int .i64 E.kind, .string E.link, .string E.data] w fun en w' => en = .returned (.tuple #[]) ∧
      ∃ v', WrAt w' base gw v' (xs ++ entryB E) (n + 1) ∧ Below base w w' ∧ KeepU gw w w' := by
  have H := Aside0.mk h
  have hbs : base ≤ w.heap.size := by
    have := blk_lt h.cell
    omega
  have z0 : w.cell? ⟨gw, 0, none⟩ = some v := (blk_cell h.cell 0).trans rfl
  have z1 : w.cell? ⟨gw, 1, none⟩ = some (.int .i64 n) := (blk_cell h.cell 1).trans rfl
  clear h
  go_enter Tryz.func59, Tryz.ntmps59
  go_wp2_with fail
  obtain ⟨⟨hs, ok⟩, hlr⟩ : ∃ r, layR E.name E.kind (E.data.size : Int) E.link = r := ⟨_, rfl⟩
  have hlm : hs.length ≤ 512 := by
    have := layR_length E.name E.kind (E.data.size : Int) E.link
    rw [hlr] at this
    exact this
  have HEq := Aside0.mk (show entryB E = hs ++ (bytesOf E.data ++ List.replicate (padN E.data.size) 0) from by unfold entryB; rw [hlr])
  have hlay : head_Lay.f 1 E.name E.kind (E.data.size : Int) E.link = some (hs, ok) := by rw [lay_eq 0 E.name E.kind (E.data.size : Int) E.link (by omega), hlr]
  clear hlr
  refine (head_Lay.calls 1 E.name E.kind (E.data.size : Int) E.link hs ok w hT hlay).mono ?_
  rintro e w1 ⟨hv, rfl, hR, hb⟩
  clear hlay
  obtain ⟨Ah, ch, rfl, hch, hCh⟩ := Kd.R_reads hR
  have HCh := Aside0.mk hCh
  have HB1 := Aside0.mk hb
  have HW1 := Aside0.mk (ownG H.out.row hb)
  have HZ1 := Aside0.mk (blk_below H.out.cell hb)
  have y0 : w1.cell? ⟨gw, 0, none⟩ = some v := (blk_cell HZ1.out 0).trans rfl
  have y1 : w1.cell? ⟨gw, 1, none⟩ = some (.int .i64 n) := (blk_cell HZ1.out 1).trans rfl
  clear hR hCh hb z0 z1
  go_wp2_with (first
    | (at_builtin; (refine print_append_row (w0 := w1) base rfl (.tmp 25) (.tmp 26) 26 5 .u8 1 rfl Tryz.underlying26 (by kernel_rfl) (by decide) v xs hs Ah hs.length ch rfl rfl HW1.out (Kd.reads_of_C (d := (0 : Int)) HCh.out) (Below.refl _ _) (Nat.le_trans hbs HB1.out.size) (by omega) ?_)
       intro v2 w2 ho2 hb2 hg2 _
       have HO2 := Aside0.mk ho2
       have HK2 := Aside0.mk (KeepU.grown (gw := gw) HW1.out hg2)
       have HB2 := Aside0.mk hb2
       have HZ2 := Aside0.mk ((hg2.block gw (blk_lt HZ1.out) (own_ne HW1.out HZ1.out (by decide))).trans HZ1.out)
       have hs2 : w1.heap.size ≤ w2.heap.size := hg2.size
       clear ho2 hb2 hg2 y0 y1)
    | (at_builtin; (refine print_append_str (w0 := w1) base rfl (.tmp 27) (.tmp 28) 26 9 5 rfl Tryz.underlying26 Tryz.underlying9 (by kernel_rfl) v2 (xs ++ hs) E.data rfl rfl HO2.out HB2.out (Nat.le_trans hbs (Nat.le_trans HB1.out.size hs2)) (by rw [List.length_append]; omega) ?_)
       intro v3 w3 ho3 hb3 hg3
       generalize hys : xs ++ hs ++ bytesOf E.data = ys at ho3
       have HYS := Aside0.mk hys
       have hyl : ys.length ≤ 1002000000 := by
         rw [← hys]
         simp only [List.length_append, bytesOf_length]
         omega
       clear hys
       have HO3 := Aside0.mk ho3
       have HK3 := Aside0.mk (HK2.out.trans (KeepU.grown (gw := gw) HO2.out hg3))
       have HB3 := Aside0.mk hb3
       have HZ3 := Aside0.mk ((hg3.block gw (blk_lt HZ2.out) (own_ne HO2.out HZ2.out (by decide))).trans HZ2.out)
       have hs3 : w2.heap.size ≤ w3.heap.size := hg3.size
       have y0 : w3.cell? ⟨gw, 0, none⟩ = some v := (blk_cell HZ3.out 0).trans rfl
       have y1 : w3.cell? ⟨gw, 1, none⟩ = some (.int .i64 n) := (blk_cell HZ3.out 1).trans rfl
       obtain ⟨a3, b3, rfl⟩ := own_slice ho3
       have hfz := fun k => blk_frozen HZ3.out k
       have HZ4 := Aside0.mk (show (w3.setCell ⟨gw, 0, none⟩ (.slice a3 ys.length b3)).heap[gw]? = some (.cells #[.slice a3 ys.length b3, .int .i64 n] 56 (0, 0)) from blk_set HZ3.out 0 _)
       have x0 := (show (w3.setCell ⟨gw, 0, none⟩ (.slice a3 ys.length b3)).cell? ⟨gw, 0, none⟩ = some (.slice a3 ys.length b3) from (blk_cell HZ4.out 0).trans rfl)
       have HO4 := Aside0.mk (own_move (w1 := w3.setCell ⟨gw, 0, none⟩ (.slice a3 ys.length b3)) ho3 (fun k hk => Below.heap_setCell w3 ⟨gw, 0, none⟩ _ k (fun e => own_ne ho3 HZ3.out (by decide) (by rw [hk, e]))))
       have HB4 := Aside0.mk (show Below base w1 (w3.setCell ⟨gw, 0, none⟩ (.slice a3 ys.length b3)) from ⟨hb3.os, hb3.tape, hb3.output, by rw [sizeG]; exact hb3.size, fun k hk => (Below.heap_setCell w3 ⟨gw, 0, none⟩ _ k (by show k ≠ gw; omega)).trans (hb3.block k hk)⟩)
       clear ho3 hb3 hg3)
    | (at_builtin; (refine append_zerosG (w0 := w1) base rfl (.tmp 36) (.tmp 41) 26 3 5 rfl Tryz.underlying26 Tryz.underlying3 (by kernel_rfl) (.slice a3 ys.length b3) 0 ys .i64 (padN E.data.size) (by first | rfl | (show Value.slice _ _ _ = _; simp)) (by show Value.int _ _ = _; congr 1; unfold padN; omega) HO4.out HB4.out (by rw [sizeG]; exact Nat.le_trans hbs (Nat.le_trans HB1.out.size (Nat.le_trans hs2 hs3))) (by unfold padN; omega) ?_)
       intro v5 w5 ho5 hb5 hg5
       generalize hzs : ys ++ List.replicate (padN E.data.size) 0 = zs at ho5
       have HZS := Aside0.mk hzs
       clear hzs
       obtain ⟨a5, b5, rfl⟩ := own_slice ho5
       have HZ5 := Aside0.mk ((hg5.block gw (blk_lt HZ4.out) (own_ne HO4.out HZ4.out (by decide))).trans HZ4.out)
       have hfz5 := fun k => blk_frozen HZ5.out k
       have HZ6 := Aside0.mk (show (w5.setCell ⟨gw, 0, none⟩ (.slice a5 zs.length b5)).heap[gw]? = some (.cells #[.slice a5 zs.length b5, .int .i64 n] 56 (0, 0)) from blk_set HZ5.out 0 _)
       have hfz6 := fun k => blk_frozen HZ6.out k
       have u0 := (show w5.cell? ⟨gw, 0, none⟩ = some (.slice a3 ys.length b3) from (blk_cell HZ5.out 0).trans rfl)
       have u1 := (show (w5.setCell ⟨gw, 0, none⟩ (.slice a5 zs.length b5)).cell? ⟨gw, 1, none⟩ = some (.int .i64 n) from (blk_cell HZ6.out 1).trans rfl)
       have HO5 := Aside0.mk ho5
       have HK5 := Aside0.mk ((HK3.out.trans (KeepU.set gw w3 0 (.slice a3 ys.length b3))).trans (KeepU.grown (gw := gw) HO4.out hg5))
       have HB5 := Aside0.mk hb5
       clear ho5 hb5 hg5)
    | (at_builtin; fail))
  go_end0
  have HXS := Aside0.mk (show zs = xs ++ entryB E from by
    rw [← HZS.out, ← HYS.out, HEq.out]
    simp)
  have HC7 := blk_set HZ6.out 1 (.int .i64 (n + 1))
  have HO6 := own_move (w1 := w5.setCell ⟨gw, 0, none⟩ (.slice a5 zs.length b5)) HO5.out (fun k hk => Below.heap_setCell w5 ⟨gw, 0, none⟩ _ k (fun e => own_ne HO5.out HZ5.out (by decide) (by rw [hk, e])))
  have HO7 := own_move (w1 := (w5.setCell ⟨gw, 0, none⟩ (.slice a5 zs.length b5)).setCell ⟨gw, 1, none⟩ (.int .i64 (n + 1))) HO6 (fun k hk => Below.heap_setCell _ ⟨gw, 1, none⟩ _ k (fun e => own_ne HO6 HZ6.out (by decide) (by rw [hk, e])))
  rw [← HXS.out]
  refine ⟨rfl, .slice a5 zs.length b5, ⟨HC7, HO7⟩, ?_⟩
  have hb5 := HB5.out
  have hb1 := HB1.out
  refine ⟨?_, (KeepU.below hb1).trans (HK5.out.trans ((KeepU.set gw w5 0 _).trans (KeepU.set gw _ 1 _)))⟩
  refine ⟨hb5.os.trans hb1.os, hb5.tape.trans hb1.tape, hb5.output.trans hb1.output, ?_, fun k hk => ?_⟩
  · rw [sizeG, sizeG]
    exact Nat.le_trans hb1.size hb5.size
  · refine (Below.heap_setCell _ ⟨gw, 1, none⟩ _ k (by show k ≠ gw; omega)).trans ((Below.heap_setCell _ ⟨gw, 0, none⟩ _ k (by show k ≠ gw; omega)).trans ((hb5.block k hk).trans (hb1.block k (by omega))))
end Go.Proofs.YtdijnmcfpbceaaaGreatDoor.X
