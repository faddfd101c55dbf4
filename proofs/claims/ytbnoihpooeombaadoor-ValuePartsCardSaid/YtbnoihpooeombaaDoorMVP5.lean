/- Part 5 of what is behind the row RowValueParts: Pf9, XVPC. -/
import Derived.Test.YtbnoihpooeombaaDoorMVP4
import Derived.Test.YtbnoihpooeombaaDoorProg
import Derived.Below
import Derived.Deep.Draws
import Derived.Deep.AppendLies
import Derived.Maps.AppendAt
import Derived.OwnWalk
import Derived.Laws.BytesArg
import Derived.Laws.MakeOwn
import Derived.Laws.OwnMore
import Derived.Deep.OwnRows
import Derived.Tactics
import Derived.Lib.ConvBytes
import Derived.Laws.Slices
import Derived.WalkKit
import Derived.KernelRfl
import Derived.RowKit3
import Derived.Deep.LoopGhost
import Derived.Deep.QuietTactic
import Derived.BigQuiet
import Derived.WideLaws
import Derived.Deep.DeepCutAuto
import Derived.Deep.CutBlock
import Derived.Deep.RegionHeld3
import Derived.Laws.Rows
import Derived.Lib.AppendStr
import Derived.ArgAppend
import Derived.Laws.IdiomCopy
import Derived.OrdersHeld
import Derived.Laws.BitsLemmas
import Derived.RowKit
import Derived.Laws.Cover1
import Derived.Laws.StructEq
import Derived.Lib.ItoaNum
import Derived.Lib.ItoaMem
import Derived.Deep.AppendSrc
import Derived.Lib.SliceRun
import Derived.Outline
import Derived.WalkLawsBesides
import Derived.WalkSpells
import Derived.LoopTactic
import Derived.Lib.Hide
import Derived.Lib.IndexMore
import Derived.Lib.Bytealg
import Derived.Laws.BitsAllLaws
import Derived.Lib.Repeat
import Derived.Lib.AppendZerosOnto
import Derived.Lib.Overlaps
import Derived.Laws.Externs
import Derived.Laws.CopyOwn
import Derived.Shelf.RegionOpenPlain
import Derived.Laws.Bits64b
import Derived.Laws.NewBlocks
import Derived.Lib.AppendIntMem
import Derived.Shelf.Strings.Builder1
import Derived.Shelf.Strings.Builder2
import Derived.Shelf.Strings.OnBuilder
import Derived.Shelf.Strings.BuilderF
import Derived.Shelf.Strings.BuilderK
import Derived.Shelf.Strconv.Itoa0
import Derived.Shelf.Strconv.Itoa1
import Derived.Shelf.LaysM
import Derived.Shelf.Strconv.Itoa2
import Derived.Shelf.Strconv.Itoa3
import Derived.Shelf.Strings.Prefix
import Derived.Shelf.Bits.Mul64
import Derived.Shelf.Strings.Repeat
import Derived.Deep.DeepMust
import Derived.Lib.ItoaLen
namespace Go.Proofs.YtbnoihpooeombaaDoor.P
open Go.Proofs.YtbnoihpooeombaaDoor.X
open Go.RowKit Go.Proofs.YtbnoihpooeombaaDoorW.PrintWords Go.Proofs.YtbnoihpooeombaaDoorW.PrintLast Go.Proofs.YtbnoihpooeombaaDoorW.PrintMore
attribute [local go_sem] qAr qAy
set_option linter.unusedVariables false
set_option linter.unusedSimpArgs false
mutual
def hogsheadlaw15_ValueParts.j0 : Nat → List (S25) → Bool → Option (Bool)
 | 0, _, _ => none
 | k + 1, x0, x23 => if x23 = true then ((hogsheadlaw15_awake.f k).bind fun t461 => (some t461)) else (hogsheadlaw15_ValueParts.l0 k x0 (⟨#[91]⟩ : ByteArray) (⟨#[123]⟩ : ByteArray) ([] : List ByteArray) true 0)
def hogsheadlaw15_ValueParts.l0 : Nat → List (S25) → ByteArray → ByteArray → List ByteArray → Bool → Int → Option (Bool)
 | 0, _, _, _, _, _, _ => none
 | k + 1, x0, x3, x4, x5, x6, x7 => if x7 < (x0.length : Int) then (if 0 ≤ x7 then ((value_Lay.f k ((rd_T25 x0 x7).f0) ((rd_T25 x0 x7).f1) ((rd_T25 x0 x7).f2) ((rd_T25 x0 x7).f3) ((rd_T25 x0 x7).f4) ((rd_T25 x0 x7).f5)).bind fun bt463 => (if x7 > 0 then (if x3.size + 1 ≤ 9223372036854775807 then (if x4.size + 1 ≤ 9223372036854775807 then (if x7 ≤ (wrap64 (x7 + 1)) then (if (wrap64 (x7 + 1)) ≤ 8 then (if 1 + ((⟨#[48, 49, 50, 51, 52, 53, 54, 55]⟩ : ByteArray).extract (x7 : Int).toNat ((wrap64 (x7 + 1)) : Int).toNat).size ≤ 9223372036854775807 then (if x5.length < 8796093022208 then ((some (x5 ++ [(⟨#[107]⟩ : ByteArray) ++ ((⟨#[48, 49, 50, 51, 52, 53, 54, 55]⟩ : ByteArray).extract (x7 : Int).toNat ((wrap64 (x7 + 1)) : Int).toNat)] : List ByteArray)).bind fun y465 => (if (x3 ++ (⟨#[44]⟩ : ByteArray)).size + bt463.1.size ≤ 9223372036854775807 then ((value_Quote.f k ((⟨#[107]⟩ : ByteArray) ++ ((⟨#[48, 49, 50, 51, 52, 53, 54, 55]⟩ : ByteArray).extract (x7 : Int).toNat ((wrap64 (x7 + 1)) : Int).toNat))).bind fun t468 => (if (x4 ++ (⟨#[44]⟩ : ByteArray)).size + t468.size ≤ 9223372036854775807 then (if ((x4 ++ (⟨#[44]⟩ : ByteArray)) ++ t468).size + 1 ≤ 9223372036854775807 then (if (((x4 ++ (⟨#[44]⟩ : ByteArray)) ++ t468) ++ (⟨#[58]⟩ : ByteArray)).size + bt463.1.size ≤ 9223372036854775807 then (if x6 = true then (hogsheadlaw15_ValueParts.l0 k x0 ((x3 ++ (⟨#[44]⟩ : ByteArray)) ++ bt463.1) ((((x4 ++ (⟨#[44]⟩ : ByteArray)) ++ t468) ++ (⟨#[58]⟩ : ByteArray)) ++ bt463.1) y465 (bt463.2 == 0) (wrap64 (x7 + 1))) else (hogsheadlaw15_ValueParts.l0 k x0 ((x3 ++ (⟨#[44]⟩ : ByteArray)) ++ bt463.1) ((((x4 ++ (⟨#[44]⟩ : ByteArray)) ++ t468) ++ (⟨#[58]⟩ : ByteArray)) ++ bt463.1) y465 false (wrap64 (x7 + 1)))) else (none)) else (none)) else (none))) else (none))) else (none)) else (none)) else (none)) else (none)) else (none)) else (none)) else (if x7 ≤ (wrap64 (x7 + 1)) then (if (wrap64 (x7 + 1)) ≤ 8 then (if 1 + ((⟨#[48, 49, 50, 51, 52, 53, 54, 55]⟩ : ByteArray).extract (x7 : Int).toNat ((wrap64 (x7 + 1)) : Int).toNat).size ≤ 9223372036854775807 then (if x5.length < 8796093022208 then ((some (x5 ++ [(⟨#[107]⟩ : ByteArray) ++ ((⟨#[48, 49, 50, 51, 52, 53, 54, 55]⟩ : ByteArray).extract (x7 : Int).toNat ((wrap64 (x7 + 1)) : Int).toNat)] : List ByteArray)).bind fun y469 => (if x3.size + bt463.1.size ≤ 9223372036854775807 then ((value_Quote.f k ((⟨#[107]⟩ : ByteArray) ++ ((⟨#[48, 49, 50, 51, 52, 53, 54, 55]⟩ : ByteArray).extract (x7 : Int).toNat ((wrap64 (x7 + 1)) : Int).toNat))).bind fun t472 => (if x4.size + t472.size ≤ 9223372036854775807 then (if (x4 ++ t472).size + 1 ≤ 9223372036854775807 then (if ((x4 ++ t472) ++ (⟨#[58]⟩ : ByteArray)).size + bt463.1.size ≤ 9223372036854775807 then (if x6 = true then (hogsheadlaw15_ValueParts.l0 k x0 (x3 ++ bt463.1) (((x4 ++ t472) ++ (⟨#[58]⟩ : ByteArray)) ++ bt463.1) y469 (bt463.2 == 0) (wrap64 (x7 + 1))) else (hogsheadlaw15_ValueParts.l0 k x0 (x3 ++ bt463.1) (((x4 ++ t472) ++ (⟨#[58]⟩ : ByteArray)) ++ bt463.1) y469 false (wrap64 (x7 + 1)))) else (none)) else (none)) else (none))) else (none))) else (none)) else (none)) else (none)) else (none)))) else (none)) else (if ([] : List (S25)).length + x0.length < 1599289640401 then ((some (([] : List (S25)) ++ x0 : List (S25))).bind fun y473 => ((some (([] : List (S25)) ++ x0 : List (S25))).bind fun y477 => ((value_Lay.f k 4 false 0 (⟨#[]⟩ : ByteArray) y473 ([] : List ByteArray)).bind fun bt481 => ((value_Lay.f k 5 false 0 (⟨#[]⟩ : ByteArray) y477 x5).bind fun bt483 => (if x6 = true then (if bt481.2 = 0 then (if x3.size + 1 ≤ 9223372036854775807 then (if bt481.1.toList = (x3 ++ (⟨#[93]⟩ : ByteArray)).toList then (if bt483.2 = 0 then (if x4.size + 1 ≤ 9223372036854775807 then (if bt483.1.toList = (x4 ++ (⟨#[125]⟩ : ByteArray)).toList then ((value_Of.f k x5 x0).bind fun bt486 => ((hogsheadlaw0_SameValue.f k bt486.1 bt486.2.1 bt486.2.2.1 bt486.2.2.2.1 bt486.2.2.2.2.1 bt486.2.2.2.2.2 5 false 0 (⟨#[]⟩ : ByteArray) y477 x5 100).bind fun t496 => (if t496 = true then ((hogsheadlaw15_awake.f k).bind fun t497 => (some t497)) else (some false)))) else (some false)) else (none)) else (some false)) else (some false)) else (none)) else (if bt483.2 = bt481.2 then ((value_May.f 4 false 0 (⟨#[]⟩ : ByteArray) y473 ([] : List ByteArray)).bind fun t498 => (if t498 = true then (some false) else ((value_May.f 5 false 0 (⟨#[]⟩ : ByteArray) y477 x5).bind fun t499 => (if t499 = true then (some false) else ((hogsheadlaw15_awake.f k).bind fun t500 => (some t500)))))) else (some false))) else (if bt481.2 = 2 then (if bt483.2 = 2 then (if bt481.1.toList = ([] : List UInt8) then (if bt483.1.toList = ([] : List UInt8) then ((hogsheadlaw15_awake.f k).bind fun t485 => (some t485)) else (some false)) else (some false)) else (some false)) else (some false))))))) else (none))
end
def hogsheadlaw15_ValueParts.f (k : Nat) (l0 : List (S25)) : Option (Bool) := if (l0.length : Int) > 8 then (hogsheadlaw15_ValueParts.j0 k l0 true) else ((hogsheadlaw15_great.f k l0).bind fun t460 => (hogsheadlaw15_ValueParts.j0 k l0 t460))
def hogsheadlaw15_ValueParts.T24 : Bool × List (List Nat × List Nat) := (true, [([], []), ([], []), ([1], [1]), ([0, 2], [0, 2]), ([3], [3]), ([4], [4]), ([5, 4], [4, 5]), ([4, 6], [4, 6]), ([7, 4], [7]), ([8], [8]), ([8], [8]), ([10, 8], [8, 10]), ([9, 11, 8], [8, 9, 11]), ([8, 12], [8, 12]), ([13, 8], [13]), ([14], [14]), ([14], [14]), ([15, 16, 14, 14], [14, 15, 16]), ([14], [14]), ([17, 18, 17, 14], [14, 17, 18]), ([14, 19], [14, 19]), ([20, 19], [20]), ([21, 21], [21]), ([21, 22], [21, 22]), ([23, 22, 0, 1, 2, 3, 4, 5, 6, 7, 8, 9, 10, 11, 12, 13, 14, 15, 16, 17, 18, 19, 20, 21, 22, 23], [23])])
def hogsheadlaw15_ValueParts.B24 : List Nat := [0, 0, 2, 7, 15, 31, 63, 127, 255, 511, 511, 1535, 4095, 8191, 16383, 32767, 32767, 131071, 32767, 524287, 1048575, 2097151, 4194303, 8388607, 16777215]
theorem hogsheadlaw15_ValueParts.tab24 : rtab .any (opsOf Tryd.f9 24) = hogsheadlaw15_ValueParts.T24 := by kernel_rfl
theorem hogsheadlaw15_ValueParts.bits24 : qB8 hogsheadlaw15_ValueParts.T24.2 hogsheadlaw15_ValueParts.B24 = true := by kernel_rfl
def hogsheadlaw15_ValueParts.bm (n k : Nat) : Array Bool := ((List.range n).map fun i => Nat.testBit k i).toArray
set_option maxHeartbeats 80000000 in
set_option maxRecDepth 100000 in
theorem hogsheadlaw15_ValueParts.calls (k : Nat) (P0_ : Nat → Prop) (A0 : Option Addr) (c0 : Nat) (l0 : List (S25)) (r : Bool) (w : World) (hT : Aside0 (Tabs w)) (hs0 : Kd.V k25 25 w w.heap.size (fun k_ => P0_ k_) (.slice A0 l0.length c0) l0) (h : hogsheadlaw15_ValueParts.f k l0 = some r) (hr_ : Aside0 (r = true)) :
  Calls Tryd.prog 9 #[.slice A0 l0.length c0] w fun e w' => e = .returned (.bool r) ∧ Below w.heap.size w w' := by
 have hu25 := Tryd.underlying25
 have HO0 := Aside0.mk (show Kd.V k25 25 w w.heap.size (fun k_ => (P0_ k_ ∨ w.heap.size ≤ k_)) (.slice A0 l0.length c0) l0 from Kd.V_mono hs0 (fun k_ hk => .inl hk))
 have HB := Aside0.mk (Below.refl w.heap.size w)
 have H : (if (l0.length : Int) > 8 then (hogsheadlaw15_ValueParts.j0 k l0 true) else ((hogsheadlaw15_great.f k l0).bind fun t460 => (hogsheadlaw15_ValueParts.j0 k l0 t460))) = some r := h
 clear h
 have HC2 := Aside0.mk H
 clear H
 go_enter Tryd.func9, Tryd.ntmps9
 go_upto_region 1 with (fail)
 go_cut [23] (fun v23 wc => ∃ (kq : Nat) (x23_1 : Bool), v23 = .bool x23_1 ∧ Aside0 (hogsheadlaw15_ValueParts.j0 kq l0 x23_1 = some r) ∧ Aside0 (kq ≤ k) ∧ Aside0 (Kd.V k25 25 wc w.heap.size (fun k_ => (P0_ k_ ∨ w.heap.size ≤ k_)) (.slice A0 l0.length c0) l0) ∧ Aside0 (Below w.heap.size w wc))
 case first =>
  have H := HC2.out
  clear HC2
  by_cases c3 : (l0.length : Int) > 8
  ·rw [if_pos c3] at H
   have c3b0 : decide (8 < (l0.length : Int)) = true := decide_eq_true c3
   have c3b1 : decide (8 < l0.length) = true := decide_eq_true (by omega)
   clear c3
   (first | rw [c3b0] | (simp only [i64_w, i32_w]; rw [c3b0]) | skip)
   have H' := Aside0.mk H
   clear H
   go_wp2
   go_meet
   case rel => exact ⟨_, (true), (by first | rfl | (simp; done) | (simp [*]; done) | exact congrArg Value.bool (nil_ne _) | exact congrArg Value.bool (nil_eq _) | exact congrArg Value.bool (nil_ne' _)), H', ⟨by first | omega | exact Nat.le_refl _⟩, ⟨by (with_reducible repeat (first | apply Kd.V_alloc | apply Kd.V_drewN | apply Kd.V_drew)); exact HO0.out⟩, ⟨by repeat (first | (with_reducible first | exact HB.out | apply qAd | apply qAb | apply qAe) | exact HB.out)⟩⟩
  ·rw [if_neg c3] at H
   have c3b0 : decide (8 < (l0.length : Int)) = false := decide_eq_false c3
   have c3b1 : decide (8 < l0.length) = false := decide_eq_false (by omega)
   clear c3
   (first | rw [c3b0] | (simp only [i64_w, i32_w]; rw [c3b0]) | skip)
   replace H := Option.bind_eq_some_iff.mp H
   obtain ⟨t460, A40, H⟩ := H
   replace H : (hogsheadlaw15_ValueParts.j0 k l0 t460) = some r := H
   have A4 := Aside0.mk A40
   clear A40
   have H' := Aside0.mk H
   clear H
   go_wp2_with (first | (go_at_call 29; (with_reducible refine (hogsheadlaw15_great.calls k _ _ l0 t460 _ ?side1 ?side2 A4.out).mono ?_); (case side1 => repeat (first | exact (Kd.V_reads' HO0.out).2.2 | (with_reducible refine Kd.C_alloc ?_ _) | (with_reducible refine Kd.C_drewN ?_ _) | (with_reducible refine Kd.C_drew ?_))); (case side2 => exact (Kd.V_reads' HO0.out).2.1); rintro e w5 ⟨rfl, hb⟩; have n0_ := Aside0.mk (Kd.V_below (by (with_reducible repeat (first | apply Kd.V_alloc | apply Kd.V_drewN | apply Kd.V_drew)); exact HO0.out) hb); have n1_ := Aside0.mk (qAi (by repeat (first | (with_reducible first | exact HB.out | apply qAd | apply qAb | apply qAe) | exact HB.out)) hb); clear HO0; clear HB; have HO0 := n0_; have HB := n1_; clear n0_ n1_; (try clear hb); (try clear hb2); (try clear hk); (try clear hi)))
   go_meet
   case rel => exact ⟨_, (t460), (by first | rfl | (simp; done) | (simp [*]; done) | exact congrArg Value.bool (nil_ne _) | exact congrArg Value.bool (nil_eq _) | exact congrArg Value.bool (nil_ne' _)), H', ⟨by first | omega | exact Nat.le_refl _⟩, ⟨by (with_reducible repeat (first | apply Kd.V_alloc | apply Kd.V_drewN | apply Kd.V_drew)); exact HO0.out⟩, ⟨by repeat (first | (with_reducible first | exact HB.out | apply qAd | apply qAb | apply qAe) | exact HB.out)⟩⟩
 case rest =>
  clear HC2
  try clear p2
  try clear c3
  try clear c3b0
  try clear c3b1
  obtain ⟨kq, x23_1, rfl, HA, HJ1, HO_0, HB⟩ := hcut
  cases kq with
  | zero => exact absurd HA.out (by simp [hogsheadlaw15_ValueParts.j0])
  | succ kj1 =>
   have H := HA.out
   clear HA
   simp only [hogsheadlaw15_ValueParts.j0] at H
   by_cases c6 : x23_1 = true
   ·subst c6
    have H1 : ((hogsheadlaw15_awake.f kj1).bind fun t461 => (some t461)) = some r := by rw [if_pos rfl] at H; exact H
    clear H
    have H := H1
    clear H1
    replace H := Option.bind_eq_some_iff.mp H
    obtain ⟨t461, A70, H⟩ := H
    replace H : (some t461) = some r := H
    have A7 := Aside0.mk A70
    clear A70
    obtain rfl := Option.some.inj H
    go_wp2_with (first | ((with_reducible refine qAn (f := 15) rfl ?_); refine goesL_ (some 24) rfl rfl Tryd.func15 (by kernel_rfl) rfl #[] rfl (by (try simp only [List.map_toArray, List.map_cons, List.map_nil]); first | done | rfl | (simp only [List.length_drop, List.length_take]; rfl)) ?_; (with_reducible refine (hogsheadlaw15_awake.calls kj1  t461 _ ?side1 A7.out).mono ?_); (case side1 => exact ⟨Tabs.below hT.out (by repeat (first | (with_reducible first | exact HB.out | apply qAd | apply qAb | apply qAe) | exact HB.out))⟩); rintro e w8 ⟨rfl, hb⟩; refine ⟨_, rfl, ?_⟩; have n0_ := Aside0.mk (Kd.V_below (by (with_reducible repeat (first | apply Kd.V_alloc | apply Kd.V_drewN | apply Kd.V_drew)); exact HO_0.out) hb); have n1_ := Aside0.mk (qAi (by repeat (first | (with_reducible first | exact HB.out | apply qAd | apply qAb | apply qAe) | exact HB.out)) hb); clear HO_0; clear HB; have HO_0 := n0_; have HB := n1_; clear n0_ n1_; (try clear hb); (try clear hb2); (try clear hk); (try clear hi)))
    go_ret
    exact ⟨by first | rfl | (simp [qAm, qAl] <;> rfl) | (simp [*, qAm, qAl] <;> rfl), by repeat (first | (with_reducible first | exact HB.out | apply qAd | apply qAb | apply qAe) | exact HB.out)⟩
   ·replace c6 := Bool.eq_false_iff.mpr c6
    subst c6
    have H1 : (hogsheadlaw15_ValueParts.l0 kj1 l0 (⟨#[91]⟩ : ByteArray) (⟨#[123]⟩ : ByteArray) ([] : List ByteArray) true 0) = some r := by rw [if_neg (show ¬ (false = true) by decide)] at H; exact H
    clear H
    have H := H1
    clear H1
    have H' := Aside0.mk H
    clear H
    go_wp2
    go_loopg [3, 4, 5, 6, 7] kj1 (fun kq v3 v4 v5 v6 v7 w' => ∃ (x3_2 : ByteArray) (x4_2 : ByteArray) (x5_2 : List ByteArray) (x6_2 : Bool) (x7_2 : Int), v3 = .string x3_2 ∧ v4 = .string x4_2 ∧ v6 = .bool x6_2 ∧ v7 = .int .i64 x7_2 ∧ Aside0 (hogsheadlaw15_ValueParts.l0 kq l0 x3_2 x4_2 x5_2 x6_2 x7_2 = some r) ∧ Aside0 (kq ≤ kj1) ∧ Aside0 (Kd.V k25 25 w' w.heap.size (fun k_ => (P0_ k_ ∨ w.heap.size ≤ k_) ∧ some k_ ≠ (v5 : Value).ownBlock) (.slice A0 l0.length c0) l0) ∧ Aside0 (Kd.R Kd.string 9 w' w.heap.size (fun k_ => (w.heap.size ≤ k_)) v5 x5_2) ∧ Aside0 (Below w.heap.size w w'))
    case atStart => exact ⟨((⟨#[91]⟩ : ByteArray)), ((⟨#[123]⟩ : ByteArray)), (([] : List ByteArray)), (true), (0), (by first | rfl | (simp; done) | (simp [*]; done) | exact congrArg Value.bool (nil_ne _) | exact congrArg Value.bool (nil_eq _) | exact congrArg Value.bool (nil_ne' _)), (by first | rfl | (simp; done) | (simp [*]; done) | exact congrArg Value.bool (nil_ne _) | exact congrArg Value.bool (nil_eq _) | exact congrArg Value.bool (nil_ne' _)), (by first | rfl | (simp; done) | (simp [*]; done) | exact congrArg Value.bool (nil_ne _) | exact congrArg Value.bool (nil_eq _) | exact congrArg Value.bool (nil_ne' _)), (by first | rfl | (simp; done) | (simp [*]; done) | exact congrArg Value.bool (nil_ne _) | exact congrArg Value.bool (nil_eq _) | exact congrArg Value.bool (nil_ne' _)), H', ⟨Nat.le_refl _⟩, ⟨by (with_reducible repeat (first | apply Kd.V_alloc | apply Kd.V_drewN | apply Kd.V_drew)); exact Kd.V_mono HO_0.out (fun _ hk => ⟨hk, (by simp [Value.ownBlock])⟩)⟩, ⟨by first | exact Kd.R_nil _ _ _ _ _ | exact Kd.N_nil _ _ _ _ _ | exact Kd.V_nil _ _ _ _ _ | exact Kd.Q_nil _ _ _ _ _ | exact Kd.S_nil _ _ _ _ _⟩, ⟨by repeat (first | (with_reducible first | exact HB.out | apply qAd | apply qAb | apply qAe) | exact HB.out)⟩⟩
    case round =>
     clear H'
     try clear c1
     try clear p2
     try clear c3
     try clear c3b0
     try clear c3b1
     try clear c6
     try clear p2
     obtain ⟨x3_2, x4_2, x5_2, x6_2, x7_2, rfl, rfl, rfl, rfl, HA, HK2, HO_0, HO_5, HB⟩ := hrel
     cases gk with
     | zero => exact absurd HA.out (by simp [hogsheadlaw15_ValueParts.l0])
     | succ k2 =>
      have H := HA.out
      clear HA
      simp only [hogsheadlaw15_ValueParts.l0] at H
      by_cases c9 : x7_2 < (l0.length : Int)
      ·rw [if_pos c9] at H
       have c9b0 : decide (x7_2 < (l0.length : Int)) = true := decide_eq_true c9
       clear c9
       by_cases c10 : 0 ≤ x7_2
       ·rw [if_pos c10] at H
        have c10b0 : decide (0 ≤ x7_2) = true := decide_eq_true c10
        clear c10
        replace H := Option.bind_eq_some_iff.mp H
        obtain ⟨⟨t463, t464⟩, A110, H⟩ := H
        replace H : (if x7_2 > 0 then (if x3_2.size + 1 ≤ 9223372036854775807 then (if x4_2.size + 1 ≤ 9223372036854775807 then (if x7_2 ≤ (wrap64 (x7_2 + 1)) then (if (wrap64 (x7_2 + 1)) ≤ 8 then (if 1 + ((⟨#[48, 49, 50, 51, 52, 53, 54, 55]⟩ : ByteArray).extract (x7_2 : Int).toNat ((wrap64 (x7_2 + 1)) : Int).toNat).size ≤ 9223372036854775807 then (if x5_2.length < 8796093022208 then ((some (x5_2 ++ [(⟨#[107]⟩ : ByteArray) ++ ((⟨#[48, 49, 50, 51, 52, 53, 54, 55]⟩ : ByteArray).extract (x7_2 : Int).toNat ((wrap64 (x7_2 + 1)) : Int).toNat)] : List ByteArray)).bind fun y465 => (if (x3_2 ++ (⟨#[44]⟩ : ByteArray)).size + t463.size ≤ 9223372036854775807 then ((value_Quote.f k2 ((⟨#[107]⟩ : ByteArray) ++ ((⟨#[48, 49, 50, 51, 52, 53, 54, 55]⟩ : ByteArray).extract (x7_2 : Int).toNat ((wrap64 (x7_2 + 1)) : Int).toNat))).bind fun t468 => (if (x4_2 ++ (⟨#[44]⟩ : ByteArray)).size + t468.size ≤ 9223372036854775807 then (if ((x4_2 ++ (⟨#[44]⟩ : ByteArray)) ++ t468).size + 1 ≤ 9223372036854775807 then (if (((x4_2 ++ (⟨#[44]⟩ : ByteArray)) ++ t468) ++ (⟨#[58]⟩ : ByteArray)).size + t463.size ≤ 9223372036854775807 then (if x6_2 = true then (hogsheadlaw15_ValueParts.l0 k2 l0 ((x3_2 ++ (⟨#[44]⟩ : ByteArray)) ++ t463) ((((x4_2 ++ (⟨#[44]⟩ : ByteArray)) ++ t468) ++ (⟨#[58]⟩ : ByteArray)) ++ t463) y465 (t464 == 0) (wrap64 (x7_2 + 1))) else (hogsheadlaw15_ValueParts.l0 k2 l0 ((x3_2 ++ (⟨#[44]⟩ : ByteArray)) ++ t463) ((((x4_2 ++ (⟨#[44]⟩ : ByteArray)) ++ t468) ++ (⟨#[58]⟩ : ByteArray)) ++ t463) y465 false (wrap64 (x7_2 + 1)))) else (none)) else (none)) else (none))) else (none))) else (none)) else (none)) else (none)) else (none)) else (none)) else (none)) else (if x7_2 ≤ (wrap64 (x7_2 + 1)) then (if (wrap64 (x7_2 + 1)) ≤ 8 then (if 1 + ((⟨#[48, 49, 50, 51, 52, 53, 54, 55]⟩ : ByteArray).extract (x7_2 : Int).toNat ((wrap64 (x7_2 + 1)) : Int).toNat).size ≤ 9223372036854775807 then (if x5_2.length < 8796093022208 then ((some (x5_2 ++ [(⟨#[107]⟩ : ByteArray) ++ ((⟨#[48, 49, 50, 51, 52, 53, 54, 55]⟩ : ByteArray).extract (x7_2 : Int).toNat ((wrap64 (x7_2 + 1)) : Int).toNat)] : List ByteArray)).bind fun y469 => (if x3_2.size + t463.size ≤ 9223372036854775807 then ((value_Quote.f k2 ((⟨#[107]⟩ : ByteArray) ++ ((⟨#[48, 49, 50, 51, 52, 53, 54, 55]⟩ : ByteArray).extract (x7_2 : Int).toNat ((wrap64 (x7_2 + 1)) : Int).toNat))).bind fun t472 => (if x4_2.size + t472.size ≤ 9223372036854775807 then (if (x4_2 ++ t472).size + 1 ≤ 9223372036854775807 then (if ((x4_2 ++ t472) ++ (⟨#[58]⟩ : ByteArray)).size + t463.size ≤ 9223372036854775807 then (if x6_2 = true then (hogsheadlaw15_ValueParts.l0 k2 l0 (x3_2 ++ t463) (((x4_2 ++ t472) ++ (⟨#[58]⟩ : ByteArray)) ++ t463) y469 (t464 == 0) (wrap64 (x7_2 + 1))) else (hogsheadlaw15_ValueParts.l0 k2 l0 (x3_2 ++ t463) (((x4_2 ++ t472) ++ (⟨#[58]⟩ : ByteArray)) ++ t463) y469 false (wrap64 (x7_2 + 1)))) else (none)) else (none)) else (none))) else (none))) else (none)) else (none)) else (none)) else (none))) = some r := H
        have A11 := Aside0.mk A110
        clear A110
        by_cases c12 : x7_2 > 0
        ·rw [if_pos c12] at H
         have c12b0 : decide (0 < x7_2) = true := decide_eq_true c12
         clear c12
         by_cases c13 : x3_2.size + 1 ≤ 9223372036854775807
         ·rw [if_pos c13] at H
          have c13b0 := eq_true c13
          have c13b1 : decide (x3_2.size + 1 ≤ 9223372036854775807) = true := decide_eq_true c13
          try have c13b2 : (9223372036854775807 < x3_2.size + 1) = False := eq_false (Nat.not_lt.2 c13)
          have Sc13 := Aside0.mk c13
          clear c13
          by_cases c14 : x4_2.size + 1 ≤ 9223372036854775807
          ·rw [if_pos c14] at H
           have c14b0 := eq_true c14
           have c14b1 : decide (x4_2.size + 1 ≤ 9223372036854775807) = true := decide_eq_true c14
           try have c14b2 : (9223372036854775807 < x4_2.size + 1) = False := eq_false (Nat.not_lt.2 c14)
           have Sc14 := Aside0.mk c14
           clear c14
           have c15b0 := eq_true (of_decide_eq_true (by first | (with_reducible assumption) | assumption) : 0 ≤ x7_2)
           by_cases c16 : x7_2 ≤ (wrap64 (x7_2 + 1))
           ·rw [if_pos c16] at H
            have c16b0 := eq_true c16
            have c16b1 : decide (x7_2 ≤ (wrap64 (x7_2 + 1))) = true := decide_eq_true c16
            by_cases c17 : (wrap64 (x7_2 + 1)) ≤ 8
            ·rw [if_pos c17] at H
             have c17b0 := eq_true c17
             have c17b1 : decide ((wrap64 (x7_2 + 1)) ≤ 8) = true := decide_eq_true c17
             by_cases c18 : 1 + ((⟨#[48, 49, 50, 51, 52, 53, 54, 55]⟩ : ByteArray).extract (x7_2 : Int).toNat ((wrap64 (x7_2 + 1)) : Int).toNat).size ≤ 9223372036854775807
             ·rw [if_pos c18] at H
              have c18b0 := eq_true c18
              have c18b1 : decide (1 + ((⟨#[48, 49, 50, 51, 52, 53, 54, 55]⟩ : ByteArray).extract (x7_2 : Int).toNat ((wrap64 (x7_2 + 1)) : Int).toNat).size ≤ 9223372036854775807) = true := decide_eq_true c18
              try have c18b2 : (9223372036854775807 < 1 + ((⟨#[48, 49, 50, 51, 52, 53, 54, 55]⟩ : ByteArray).extract (x7_2 : Int).toNat ((wrap64 (x7_2 + 1)) : Int).toNat).size) = False := eq_false (Nat.not_lt.2 c18)
              have Sc18 := Aside0.mk c18
              clear c18
              by_cases c19 : x5_2.length < 8796093022208
              ·rw [if_pos c19] at H
               have LMc19 := Aside0.mk c19
               clear c19
               obtain ⟨y465, hy465⟩ : ∃ y_ : List ByteArray, y_ = (x5_2 ++ [(⟨#[107]⟩ : ByteArray) ++ ((⟨#[48, 49, 50, 51, 52, 53, 54, 55]⟩ : ByteArray).extract (x7_2 : Int).toNat ((wrap64 (x7_2 + 1)) : Int).toNat)]) := ⟨_, rfl⟩
               replace H : (if (x3_2 ++ (⟨#[44]⟩ : ByteArray)).size + t463.size ≤ 9223372036854775807 then ((value_Quote.f k2 ((⟨#[107]⟩ : ByteArray) ++ ((⟨#[48, 49, 50, 51, 52, 53, 54, 55]⟩ : ByteArray).extract (x7_2 : Int).toNat ((wrap64 (x7_2 + 1)) : Int).toNat))).bind fun t468 => (if (x4_2 ++ (⟨#[44]⟩ : ByteArray)).size + t468.size ≤ 9223372036854775807 then (if ((x4_2 ++ (⟨#[44]⟩ : ByteArray)) ++ t468).size + 1 ≤ 9223372036854775807 then (if (((x4_2 ++ (⟨#[44]⟩ : ByteArray)) ++ t468) ++ (⟨#[58]⟩ : ByteArray)).size + t463.size ≤ 9223372036854775807 then (if x6_2 = true then (hogsheadlaw15_ValueParts.l0 k2 l0 ((x3_2 ++ (⟨#[44]⟩ : ByteArray)) ++ t463) ((((x4_2 ++ (⟨#[44]⟩ : ByteArray)) ++ t468) ++ (⟨#[58]⟩ : ByteArray)) ++ t463) y465 (t464 == 0) (wrap64 (x7_2 + 1))) else (hogsheadlaw15_ValueParts.l0 k2 l0 ((x3_2 ++ (⟨#[44]⟩ : ByteArray)) ++ t463) ((((x4_2 ++ (⟨#[44]⟩ : ByteArray)) ++ t468) ++ (⟨#[58]⟩ : ByteArray)) ++ t463) y465 false (wrap64 (x7_2 + 1)))) else (none)) else (none)) else (none))) else (none)) = some r := by first | (rw [hy465]; with_reducible exact H) | (have H2_ := (Option.bind_some _ _).symm.trans H; rw [hy465]; with_reducible exact H2_) | (have H2_ := (Option.bind_some _ _).symm.trans H; with_reducible exact H2_) | with_reducible exact H | (rw [hy465]; exact H) | exact H
               have Ny465 := Aside0.mk hy465
               clear hy465
               by_cases c20 : (x3_2 ++ (⟨#[44]⟩ : ByteArray)).size + t463.size ≤ 9223372036854775807
               ·rw [if_pos c20] at H
                have c20b0 := eq_true c20
                have c20b1 : decide ((x3_2 ++ (⟨#[44]⟩ : ByteArray)).size + t463.size ≤ 9223372036854775807) = true := decide_eq_true c20
                try have c20b2 : (9223372036854775807 < (x3_2 ++ (⟨#[44]⟩ : ByteArray)).size + t463.size) = False := eq_false (Nat.not_lt.2 c20)
                have Sc20 := Aside0.mk c20
                clear c20
                replace H := Option.bind_eq_some_iff.mp H
                obtain ⟨t468, A210, H⟩ := H
                replace H : (if (x4_2 ++ (⟨#[44]⟩ : ByteArray)).size + t468.size ≤ 9223372036854775807 then (if ((x4_2 ++ (⟨#[44]⟩ : ByteArray)) ++ t468).size + 1 ≤ 9223372036854775807 then (if (((x4_2 ++ (⟨#[44]⟩ : ByteArray)) ++ t468) ++ (⟨#[58]⟩ : ByteArray)).size + t463.size ≤ 9223372036854775807 then (if x6_2 = true then (hogsheadlaw15_ValueParts.l0 k2 l0 ((x3_2 ++ (⟨#[44]⟩ : ByteArray)) ++ t463) ((((x4_2 ++ (⟨#[44]⟩ : ByteArray)) ++ t468) ++ (⟨#[58]⟩ : ByteArray)) ++ t463) y465 (t464 == 0) (wrap64 (x7_2 + 1))) else (hogsheadlaw15_ValueParts.l0 k2 l0 ((x3_2 ++ (⟨#[44]⟩ : ByteArray)) ++ t463) ((((x4_2 ++ (⟨#[44]⟩ : ByteArray)) ++ t468) ++ (⟨#[58]⟩ : ByteArray)) ++ t463) y465 false (wrap64 (x7_2 + 1)))) else (none)) else (none)) else (none)) = some r := H
                have A21 := Aside0.mk A210
                clear A210
                by_cases c22 : (x4_2 ++ (⟨#[44]⟩ : ByteArray)).size + t468.size ≤ 9223372036854775807
                ·rw [if_pos c22] at H
                 have c22b0 := eq_true c22
                 have c22b1 : decide ((x4_2 ++ (⟨#[44]⟩ : ByteArray)).size + t468.size ≤ 9223372036854775807) = true := decide_eq_true c22
                 try have c22b2 : (9223372036854775807 < (x4_2 ++ (⟨#[44]⟩ : ByteArray)).size + t468.size) = False := eq_false (Nat.not_lt.2 c22)
                 have Sc22 := Aside0.mk c22
                 clear c22
                 by_cases c23 : ((x4_2 ++ (⟨#[44]⟩ : ByteArray)) ++ t468).size + 1 ≤ 9223372036854775807
                 ·rw [if_pos c23] at H
                  have c23b0 := eq_true c23
                  have c23b1 : decide (((x4_2 ++ (⟨#[44]⟩ : ByteArray)) ++ t468).size + 1 ≤ 9223372036854775807) = true := decide_eq_true c23
                  try have c23b2 : (9223372036854775807 < ((x4_2 ++ (⟨#[44]⟩ : ByteArray)) ++ t468).size + 1) = False := eq_false (Nat.not_lt.2 c23)
                  have Sc23 := Aside0.mk c23
                  clear c23
                  by_cases c24 : (((x4_2 ++ (⟨#[44]⟩ : ByteArray)) ++ t468) ++ (⟨#[58]⟩ : ByteArray)).size + t463.size ≤ 9223372036854775807
                  ·rw [if_pos c24] at H
                   have c24b0 := eq_true c24
                   have c24b1 : decide ((((x4_2 ++ (⟨#[44]⟩ : ByteArray)) ++ t468) ++ (⟨#[58]⟩ : ByteArray)).size + t463.size ≤ 9223372036854775807) = true := decide_eq_true c24
                   try have c24b2 : (9223372036854775807 < (((x4_2 ++ (⟨#[44]⟩ : ByteArray)) ++ t468) ++ (⟨#[58]⟩ : ByteArray)).size + t463.size) = False := eq_false (Nat.not_lt.2 c24)
                   have Sc24 := Aside0.mk c24
                   clear c24
                   by_cases c25 : x6_2 = true
                   ·subst c25
                    have H1 : (hogsheadlaw15_ValueParts.l0 k2 l0 ((x3_2 ++ (⟨#[44]⟩ : ByteArray)) ++ t463) ((((x4_2 ++ (⟨#[44]⟩ : ByteArray)) ++ t468) ++ (⟨#[58]⟩ : ByteArray)) ++ t463) y465 (t464 == 0) (wrap64 (x7_2 + 1))) = some r := by rw [if_pos rfl] at H; exact H
                    clear H
                    have H := H1
                    clear H1
                    have H' := Aside0.mk H
                    clear H
                    have p462 : 0 ≤ (x7_2 : Int) := of_decide_eq_true (by first | (with_reducible assumption) | assumption)
                    have q462 : x7_2 < (l0.length : Int) := of_decide_eq_true (by first | (with_reducible assumption) | assumption)
                    obtain ⟨ad462, A462_4, c462_4, A462_5, c462_5, e462, hx462_0, hx462_1, hx462_2, hx462_3, hx462_4, hx462_5, hl462_4, hi462_4, hl462_5, hi462_5⟩ := at_T25 (Kd.V_reads' HO_0.out).2.2 x7_2 p462 q462
                    cases e462
                    obtain ⟨ce462, hce462, hMe462, hcc462⟩ := Kd.V_get HO_0.out z25 x7_2 p462 (by first | exact q462 | exact of_decide_eq_true (by first | (with_reducible assumption) | assumption) | (have e_ := (Kd.V_reads' HO_0.out).1; omega))
                    obtain ⟨ua462_4, uc462_4, ua462_5, uc462_5, rfl, ul462_4, ge462_4, ul462_5, ge462_5⟩ := qCn hMe462
                    have hv462_4 := hcc462 4 _ rfl
                    rw [qA8 _ _ 4 (by omega)] at hv462_4
                    replace hv462_4 := Option.some.inj (hv462_4.symm.trans hx462_4)
                    injection hv462_4 with hva_ hvn_ hvc_
                    rw [hva_] at ge462_4
                    rw [hvc_] at ul462_4
                    have HL462_4 := Aside0.mk (show Kd.V k25 25 _ w.heap.size _ _ ((rd_T25 l0 x7_2).f4) from Kd.V_mk ul462_4 ge462_4)
                    clear hva_ hvn_ hvc_ ge462_4 ul462_4
                    have hv462_5 := hcc462 5 _ rfl
                    rw [qA8 _ _ 5 (by omega)] at hv462_5
                    replace hv462_5 := Option.some.inj (hv462_5.symm.trans hx462_5)
                    injection hv462_5 with hva_ hvn_ hvc_
                    rw [hva_] at ge462_5
                    rw [hvc_] at ul462_5
                    have HL462_5 := Aside0.mk (show Kd.V Kd.string 9 _ w.heap.size _ _ ((rd_T25 l0 x7_2).f5) from Kd.V_mk ul462_5 ge462_5)
                    clear hva_ hvn_ hvc_ ge462_5 ul462_5
                    clear hcc462 hce462
                    have HR462_4 := Aside0.mk hi462_4
                    have HC462_4 := Aside0.mk hl462_4
                    clear hi462_4 hl462_4
                    have HR462_5 := Aside0.mk hi462_5
                    have HC462_5 := Aside0.mk hl462_5
                    clear hi462_5 hl462_5
                    replace p462 := eq_true p462
                    replace q462 := eq_true q462
                    go_wp2_with (first | ((with_reducible refine qAn (f := 16) rfl ?_); refine goesL_ (some 36) rfl rfl Tryd.func16 (by kernel_rfl) rfl #[.agg #[.int .i64 ((rd_T25 l0 x7_2).f0), .bool ((rd_T25 l0 x7_2).f1), .int .i64 ((rd_T25 l0 x7_2).f2), .string ((rd_T25 l0 x7_2).f3), .slice A462_4 ((rd_T25 l0 x7_2).f4).length c462_4, .slice A462_5 ((rd_T25 l0 x7_2).f5).length c462_5]] rfl (by (try simp only [List.map_toArray, List.map_cons, List.map_nil]); first | done | rfl | (simp only [List.length_drop, List.length_take]; rfl)) ?_; (with_reducible refine (value_Lay.calls k2 ((rd_T25 l0 x7_2).f0) ((rd_T25 l0 x7_2).f1) ((rd_T25 l0 x7_2).f2) ((rd_T25 l0 x7_2).f3) _ _ ((rd_T25 l0 x7_2).f4) _ _ ((rd_T25 l0 x7_2).f5) t463 t464 _ ?side1 ?side2 ?side3 ?side4 ?side5 A11.out).mono ?_); (case side1 => exact ⟨Tabs.below hT.out (by repeat (first | (with_reducible first | exact HB.out | apply qAd | apply qAb | apply qAe) | exact HB.out))⟩); (case side2 => repeat (first | exact (by repeat (first | (with_reducible exact HR462_4.out) | (with_reducible refine Kd.C_alloc ?_ _) | (with_reducible refine Kd.C_drewN ?_ _) | (with_reducible refine Kd.C_drew ?_) | exact HR462_4.out)) | (with_reducible refine Kd.C_alloc ?_ _) | (with_reducible refine Kd.C_drewN ?_ _) | (with_reducible refine Kd.C_drew ?_))); (case side3 => exact HC462_4.out); (case side4 => repeat (first | exact (by repeat (first | (with_reducible exact HR462_5.out) | (with_reducible refine Kd.C_alloc ?_ _) | (with_reducible refine Kd.C_drewN ?_ _) | (with_reducible refine Kd.C_drew ?_) | exact HR462_5.out)) | (with_reducible refine Kd.C_alloc ?_ _) | (with_reducible refine Kd.C_drewN ?_ _) | (with_reducible refine Kd.C_drew ?_))); (case side5 => exact HC462_5.out); rintro e w26 ⟨rfl, hb⟩; refine ⟨_, rfl, ?_⟩; have n0_ := Aside0.mk (Kd.V_below (by (with_reducible repeat (first | apply Kd.V_alloc | apply Kd.V_drewN | apply Kd.V_drew)); exact HO_0.out) hb); have n1_ := Aside0.mk (Kd.R_below (by (with_reducible repeat (first | apply Kd.R_alloc | apply Kd.R_drewN | apply Kd.R_drew)); exact HO_5.out) hb); have n2_ := Aside0.mk (Kd.V_below (by (with_reducible repeat (first | apply Kd.V_alloc | apply Kd.V_drewN | apply Kd.V_drew)); exact HL462_4.out) hb); have n3_ := Aside0.mk (Kd.V_below (by (with_reducible repeat (first | apply Kd.V_alloc | apply Kd.V_drewN | apply Kd.V_drew)); exact HL462_5.out) hb); have n4_ := Aside0.mk (Kd.C_below (by repeat (first | (with_reducible exact HR462_4.out) | (with_reducible refine Kd.C_alloc ?_ _) | (with_reducible refine Kd.C_drewN ?_ _) | (with_reducible refine Kd.C_drew ?_) | exact HR462_4.out)) hb); have n5_ := Aside0.mk (Kd.C_below (by repeat (first | (with_reducible exact HR462_5.out) | (with_reducible refine Kd.C_alloc ?_ _) | (with_reducible refine Kd.C_drewN ?_ _) | (with_reducible refine Kd.C_drew ?_) | exact HR462_5.out)) hb); have n6_ := Aside0.mk (qAi (by repeat (first | (with_reducible first | exact HB.out | apply qAd | apply qAb | apply qAe) | exact HB.out)) hb); clear HO_0; clear HO_5; clear HL462_4; clear HL462_5; clear HR462_4; clear HR462_5; clear HB; have HO_0 := n0_; have HO_5 := n1_; have HL462_4 := n2_; have HL462_5 := n3_; have HR462_4 := n4_; have HR462_5 := n5_; have HB := n6_; clear n0_ n1_ n2_ n3_ n4_ n5_ n6_; (try clear hb); (try clear hb2); (try clear hk); (try clear hi)) | ((with_reducible refine qAw (b := .append) (xs := #[.tmp 50, .tmp 52]) rfl ?_); at_builtin; refine Kd.R_append Kd.string (w0 := w) w.heap.size rfl (.tmp 50) (.tmp 52) 23 9 (.string ⟨#[]⟩) 16 rfl Tryd.underlying23 info9 rfl (by decide) (by omega) u5 x5_2 ((⟨#[107]⟩ : ByteArray) ++ ((⟨#[48, 49, 50, 51, 52, 53, 54, 55]⟩ : ByteArray).extract (x7_2 : Int).toNat ((wrap64 (x7_2 + 1)) : Int).toNat)) [.string ((⟨#[107]⟩ : ByteArray) ++ ((⟨#[48, 49, 50, 51, 52, 53, 54, 55]⟩ : ByteArray).extract (x7_2 : Int).toNat ((wrap64 (x7_2 + 1)) : Int).toNat))] (fun k_ => (w.heap.size ≤ k_)) (fun _ => False) rfl rfl ?aP (fun _ hk => hk.elim) ?aF ?aO ?aB ?aS ?aL ?_; (case aP => exact rfl); (case aB => exact (by repeat (first | (with_reducible first | exact HB.out | apply qAd | apply qAb | apply qAe) | exact HB.out))); (case aF => exact (fun k_ hk => (Nat.le_trans (qAj (by repeat (first | (with_reducible first | exact HB.out | apply qAd | apply qAb | apply qAe) | exact HB.out))) hk))); (case aO => exact (by (with_reducible repeat (first | apply Kd.R_alloc | apply Kd.R_drewN | apply Kd.R_drew)); exact HO_5.out)); (case aS => exact (qAj (by repeat (first | (with_reducible first | exact HB.out | apply qAd | apply qAb | apply qAe) | exact HB.out)))); (case aL => have := LMc19.out; omega); intro v466 w27 ho hb hg hat; rw [← Ny465.out] at ho; have n0_ := Aside0.mk (Kd.V_afterv (ok := (fun k_ => (P0_ k_ ∨ w.heap.size ≤ k_))) (by (with_reducible repeat (first | apply Kd.V_alloc | apply Kd.V_drewN | apply Kd.V_drew)); exact HO_0.out) hg hat); have n1_ := Aside0.mk (Kd.V_afterv (ok := (fun k_ => (P0_ k_ ∨ w.heap.size ≤ k_))) (by (with_reducible repeat (first | apply Kd.V_alloc | apply Kd.V_drewN | apply Kd.V_drew)); exact HL462_4.out) hg hat); have n2_ := Aside0.mk (Kd.V_afterv (ok := (fun k_ => (P0_ k_ ∨ w.heap.size ≤ k_))) (by (with_reducible repeat (first | apply Kd.V_alloc | apply Kd.V_drewN | apply Kd.V_drew)); exact HL462_5.out) hg hat); have n3_ := Aside0.mk (hb); have n4_ := Aside0.mk (ho); clear HO_0; clear HL462_4; clear HL462_5; clear HB; clear HO_5; have HO_0 := n0_; have HL462_4 := n1_; have HL462_5 := n2_; have HB := n3_; have HO467 := n4_; clear n0_ n1_ n2_ n3_ n4_; clear ho hb hg hat) | ((with_reducible refine qAn (f := 26) rfl ?_); refine goesL_ (some 59) rfl rfl Tryd.func26 (by kernel_rfl) rfl #[.string ((⟨#[107]⟩ : ByteArray) ++ ((⟨#[48, 49, 50, 51, 52, 53, 54, 55]⟩ : ByteArray).extract (x7_2 : Int).toNat ((wrap64 (x7_2 + 1)) : Int).toNat))] rfl (by (try simp only [List.map_toArray, List.map_cons, List.map_nil]); first | done | rfl | (simp only [List.length_drop, List.length_take]; rfl)) ?_; (with_reducible refine (value_Quote.calls k2 ((⟨#[107]⟩ : ByteArray) ++ ((⟨#[48, 49, 50, 51, 52, 53, 54, 55]⟩ : ByteArray).extract (x7_2 : Int).toNat ((wrap64 (x7_2 + 1)) : Int).toNat)) t468 _ A21.out).mono ?_); rintro e w28 ⟨rfl, hb⟩; refine ⟨_, rfl, ?_⟩; have n0_ := Aside0.mk (Kd.V_below (by (with_reducible repeat (first | apply Kd.V_alloc | apply Kd.V_drewN | apply Kd.V_drew)); exact HO_0.out) hb); have n1_ := Aside0.mk (Kd.V_below (by (with_reducible repeat (first | apply Kd.V_alloc | apply Kd.V_drewN | apply Kd.V_drew)); exact HL462_4.out) hb); have n2_ := Aside0.mk (Kd.V_below (by (with_reducible repeat (first | apply Kd.V_alloc | apply Kd.V_drewN | apply Kd.V_drew)); exact HL462_5.out) hb); have n3_ := Aside0.mk (Kd.R_below (by (with_reducible repeat (first | apply Kd.R_alloc | apply Kd.R_drewN | apply Kd.R_drew)); exact HO467.out) hb); have n4_ := Aside0.mk (qAi (by repeat (first | (with_reducible first | exact HB.out | apply qAd | apply qAb | apply qAe) | exact HB.out)) hb); clear HO_0; clear HL462_4; clear HL462_5; clear HO467; clear HB; have HO_0 := n0_; have HL462_4 := n1_; have HL462_5 := n2_; have HO467 := n3_; have HB := n4_; clear n0_ n1_ n2_ n3_ n4_; (try clear hb); (try clear hb2); (try clear hk); (try clear hi)))
                    try any_goals (exfalso; have h_ := Sc13.out; rename_i hb_; (try simp only [ByteArray.size_extract, ByteArray.size_append] at h_ hb_); (try simp only [ByteArray.size, List.size_toArray, List.length_cons, List.length_nil] at h_ hb_); omega)
                    try any_goals (exfalso; have h_ := Sc14.out; rename_i hb_; (try simp only [ByteArray.size_extract, ByteArray.size_append] at h_ hb_); (try simp only [ByteArray.size, List.size_toArray, List.length_cons, List.length_nil] at h_ hb_); omega)
                    try any_goals (exfalso; have h_ := Sc18.out; rename_i hb_; (try simp only [ByteArray.size_extract, ByteArray.size_append] at h_ hb_); (try simp only [ByteArray.size, List.size_toArray, List.length_cons, List.length_nil] at h_ hb_); omega)
                    try any_goals (exfalso; have h_ := Sc20.out; rename_i hb_; (try simp only [ByteArray.size_extract, ByteArray.size_append] at h_ hb_); (try simp only [ByteArray.size, List.size_toArray, List.length_cons, List.length_nil] at h_ hb_); omega)
                    try any_goals (exfalso; have h_ := Sc22.out; rename_i hb_; (try simp only [ByteArray.size_extract, ByteArray.size_append] at h_ hb_); (try simp only [ByteArray.size, List.size_toArray, List.length_cons, List.length_nil] at h_ hb_); omega)
                    try any_goals (exfalso; have h_ := Sc23.out; rename_i hb_; (try simp only [ByteArray.size_extract, ByteArray.size_append] at h_ hb_); (try simp only [ByteArray.size, List.size_toArray, List.length_cons, List.length_nil] at h_ hb_); omega)
                    try any_goals (exfalso; have h_ := Sc24.out; rename_i hb_; (try simp only [ByteArray.size_extract, ByteArray.size_append] at h_ hb_); (try simp only [ByteArray.size, List.size_toArray, List.length_cons, List.length_nil] at h_ hb_); omega)
                    go_roundg k2
                    case measure => have := HJ1.out; have := HK2.out; omega
                    case rel => exact ⟨((x3_2 ++ (⟨#[44]⟩ : ByteArray)) ++ t463), ((((x4_2 ++ (⟨#[44]⟩ : ByteArray)) ++ t468) ++ (⟨#[58]⟩ : ByteArray)) ++ t463), (y465), ((t464 == 0)), (wrap64 (x7_2 + 1)), (by first | rfl | (simp; done) | (simp [*]; done) | exact congrArg Value.bool (nil_ne _) | exact congrArg Value.bool (nil_eq _) | exact congrArg Value.bool (nil_ne' _)), (by first | rfl | (simp; done) | (simp [*]; done) | exact congrArg Value.bool (nil_ne _) | exact congrArg Value.bool (nil_eq _) | exact congrArg Value.bool (nil_ne' _)), (by first | rfl | (simp; done) | (simp [*]; done) | exact congrArg Value.bool (nil_ne _) | exact congrArg Value.bool (nil_eq _) | exact congrArg Value.bool (nil_ne' _)), (by first | rfl | (simp; done) | (simp [*]; done) | exact congrArg Value.bool (nil_ne _) | exact congrArg Value.bool (nil_eq _) | exact congrArg Value.bool (nil_ne' _)), H', ⟨by have := HJ1.out; have := HK2.out; omega⟩, ⟨by (with_reducible repeat (first | apply Kd.V_alloc | apply Kd.V_drewN | apply Kd.V_drew)); exact HO_0.out⟩, ⟨by (with_reducible repeat (first | apply Kd.R_alloc | apply Kd.R_drewN | apply Kd.R_drew)); exact HO467.out⟩, ⟨by repeat (first | (with_reducible first | exact HB.out | apply qAd | apply qAb | apply qAe) | exact HB.out)⟩⟩
                   ·replace c25 := Bool.eq_false_iff.mpr c25
                    subst c25
                    have H1 : (hogsheadlaw15_ValueParts.l0 k2 l0 ((x3_2 ++ (⟨#[44]⟩ : ByteArray)) ++ t463) ((((x4_2 ++ (⟨#[44]⟩ : ByteArray)) ++ t468) ++ (⟨#[58]⟩ : ByteArray)) ++ t463) y465 false (wrap64 (x7_2 + 1))) = some r := by rw [if_neg (show ¬ (false = true) by decide)] at H; exact H
                    clear H
                    have H := H1
                    clear H1
                    have H' := Aside0.mk H
                    clear H
                    have p462 : 0 ≤ (x7_2 : Int) := of_decide_eq_true (by first | (with_reducible assumption) | assumption)
                    have q462 : x7_2 < (l0.length : Int) := of_decide_eq_true (by first | (with_reducible assumption) | assumption)
                    obtain ⟨ad462, A462_4, c462_4, A462_5, c462_5, e462, hx462_0, hx462_1, hx462_2, hx462_3, hx462_4, hx462_5, hl462_4, hi462_4, hl462_5, hi462_5⟩ := at_T25 (Kd.V_reads' HO_0.out).2.2 x7_2 p462 q462
                    cases e462
                    obtain ⟨ce462, hce462, hMe462, hcc462⟩ := Kd.V_get HO_0.out z25 x7_2 p462 (by first | exact q462 | exact of_decide_eq_true (by first | (with_reducible assumption) | assumption) | (have e_ := (Kd.V_reads' HO_0.out).1; omega))
                    obtain ⟨ua462_4, uc462_4, ua462_5, uc462_5, rfl, ul462_4, ge462_4, ul462_5, ge462_5⟩ := qCn hMe462
                    have hv462_4 := hcc462 4 _ rfl
                    rw [qA8 _ _ 4 (by omega)] at hv462_4
                    replace hv462_4 := Option.some.inj (hv462_4.symm.trans hx462_4)
                    injection hv462_4 with hva_ hvn_ hvc_
                    rw [hva_] at ge462_4
                    rw [hvc_] at ul462_4
                    have HL462_4 := Aside0.mk (show Kd.V k25 25 _ w.heap.size _ _ ((rd_T25 l0 x7_2).f4) from Kd.V_mk ul462_4 ge462_4)
                    clear hva_ hvn_ hvc_ ge462_4 ul462_4
                    have hv462_5 := hcc462 5 _ rfl
                    rw [qA8 _ _ 5 (by omega)] at hv462_5
                    replace hv462_5 := Option.some.inj (hv462_5.symm.trans hx462_5)
                    injection hv462_5 with hva_ hvn_ hvc_
                    rw [hva_] at ge462_5
                    rw [hvc_] at ul462_5
                    have HL462_5 := Aside0.mk (show Kd.V Kd.string 9 _ w.heap.size _ _ ((rd_T25 l0 x7_2).f5) from Kd.V_mk ul462_5 ge462_5)
                    clear hva_ hvn_ hvc_ ge462_5 ul462_5
                    clear hcc462 hce462
                    have HR462_4 := Aside0.mk hi462_4
                    have HC462_4 := Aside0.mk hl462_4
                    clear hi462_4 hl462_4
                    have HR462_5 := Aside0.mk hi462_5
                    have HC462_5 := Aside0.mk hl462_5
                    clear hi462_5 hl462_5
                    replace p462 := eq_true p462
                    replace q462 := eq_true q462
                    go_wp2_with (first | ((with_reducible refine qAn (f := 16) rfl ?_); refine goesL_ (some 36) rfl rfl Tryd.func16 (by kernel_rfl) rfl #[.agg #[.int .i64 ((rd_T25 l0 x7_2).f0), .bool ((rd_T25 l0 x7_2).f1), .int .i64 ((rd_T25 l0 x7_2).f2), .string ((rd_T25 l0 x7_2).f3), .slice A462_4 ((rd_T25 l0 x7_2).f4).length c462_4, .slice A462_5 ((rd_T25 l0 x7_2).f5).length c462_5]] rfl (by (try simp only [List.map_toArray, List.map_cons, List.map_nil]); first | done | rfl | (simp only [List.length_drop, List.length_take]; rfl)) ?_; (with_reducible refine (value_Lay.calls k2 ((rd_T25 l0 x7_2).f0) ((rd_T25 l0 x7_2).f1) ((rd_T25 l0 x7_2).f2) ((rd_T25 l0 x7_2).f3) _ _ ((rd_T25 l0 x7_2).f4) _ _ ((rd_T25 l0 x7_2).f5) t463 t464 _ ?side1 ?side2 ?side3 ?side4 ?side5 A11.out).mono ?_); (case side1 => exact ⟨Tabs.below hT.out (by repeat (first | (with_reducible first | exact HB.out | apply qAd | apply qAb | apply qAe) | exact HB.out))⟩); (case side2 => repeat (first | exact (by repeat (first | (with_reducible exact HR462_4.out) | (with_reducible refine Kd.C_alloc ?_ _) | (with_reducible refine Kd.C_drewN ?_ _) | (with_reducible refine Kd.C_drew ?_) | exact HR462_4.out)) | (with_reducible refine Kd.C_alloc ?_ _) | (with_reducible refine Kd.C_drewN ?_ _) | (with_reducible refine Kd.C_drew ?_))); (case side3 => exact HC462_4.out); (case side4 => repeat (first | exact (by repeat (first | (with_reducible exact HR462_5.out) | (with_reducible refine Kd.C_alloc ?_ _) | (with_reducible refine Kd.C_drewN ?_ _) | (with_reducible refine Kd.C_drew ?_) | exact HR462_5.out)) | (with_reducible refine Kd.C_alloc ?_ _) | (with_reducible refine Kd.C_drewN ?_ _) | (with_reducible refine Kd.C_drew ?_))); (case side5 => exact HC462_5.out); rintro e w29 ⟨rfl, hb⟩; refine ⟨_, rfl, ?_⟩; have n0_ := Aside0.mk (Kd.V_below (by (with_reducible repeat (first | apply Kd.V_alloc | apply Kd.V_drewN | apply Kd.V_drew)); exact HO_0.out) hb); have n1_ := Aside0.mk (Kd.R_below (by (with_reducible repeat (first | apply Kd.R_alloc | apply Kd.R_drewN | apply Kd.R_drew)); exact HO_5.out) hb); have n2_ := Aside0.mk (Kd.V_below (by (with_reducible repeat (first | apply Kd.V_alloc | apply Kd.V_drewN | apply Kd.V_drew)); exact HL462_4.out) hb); have n3_ := Aside0.mk (Kd.V_below (by (with_reducible repeat (first | apply Kd.V_alloc | apply Kd.V_drewN | apply Kd.V_drew)); exact HL462_5.out) hb); have n4_ := Aside0.mk (Kd.C_below (by repeat (first | (with_reducible exact HR462_4.out) | (with_reducible refine Kd.C_alloc ?_ _) | (with_reducible refine Kd.C_drewN ?_ _) | (with_reducible refine Kd.C_drew ?_) | exact HR462_4.out)) hb); have n5_ := Aside0.mk (Kd.C_below (by repeat (first | (with_reducible exact HR462_5.out) | (with_reducible refine Kd.C_alloc ?_ _) | (with_reducible refine Kd.C_drewN ?_ _) | (with_reducible refine Kd.C_drew ?_) | exact HR462_5.out)) hb); have n6_ := Aside0.mk (qAi (by repeat (first | (with_reducible first | exact HB.out | apply qAd | apply qAb | apply qAe) | exact HB.out)) hb); clear HO_0; clear HO_5; clear HL462_4; clear HL462_5; clear HR462_4; clear HR462_5; clear HB; have HO_0 := n0_; have HO_5 := n1_; have HL462_4 := n2_; have HL462_5 := n3_; have HR462_4 := n4_; have HR462_5 := n5_; have HB := n6_; clear n0_ n1_ n2_ n3_ n4_ n5_ n6_; (try clear hb); (try clear hb2); (try clear hk); (try clear hi)) | ((with_reducible refine qAw (b := .append) (xs := #[.tmp 50, .tmp 52]) rfl ?_); at_builtin; refine Kd.R_append Kd.string (w0 := w) w.heap.size rfl (.tmp 50) (.tmp 52) 23 9 (.string ⟨#[]⟩) 16 rfl Tryd.underlying23 info9 rfl (by decide) (by omega) u5 x5_2 ((⟨#[107]⟩ : ByteArray) ++ ((⟨#[48, 49, 50, 51, 52, 53, 54, 55]⟩ : ByteArray).extract (x7_2 : Int).toNat ((wrap64 (x7_2 + 1)) : Int).toNat)) [.string ((⟨#[107]⟩ : ByteArray) ++ ((⟨#[48, 49, 50, 51, 52, 53, 54, 55]⟩ : ByteArray).extract (x7_2 : Int).toNat ((wrap64 (x7_2 + 1)) : Int).toNat))] (fun k_ => (w.heap.size ≤ k_)) (fun _ => False) rfl rfl ?aP (fun _ hk => hk.elim) ?aF ?aO ?aB ?aS ?aL ?_; (case aP => exact rfl); (case aB => exact (by repeat (first | (with_reducible first | exact HB.out | apply qAd | apply qAb | apply qAe) | exact HB.out))); (case aF => exact (fun k_ hk => (Nat.le_trans (qAj (by repeat (first | (with_reducible first | exact HB.out | apply qAd | apply qAb | apply qAe) | exact HB.out))) hk))); (case aO => exact (by (with_reducible repeat (first | apply Kd.R_alloc | apply Kd.R_drewN | apply Kd.R_drew)); exact HO_5.out)); (case aS => exact (qAj (by repeat (first | (with_reducible first | exact HB.out | apply qAd | apply qAb | apply qAe) | exact HB.out)))); (case aL => have := LMc19.out; omega); intro v466 w30 ho hb hg hat; rw [← Ny465.out] at ho; have n0_ := Aside0.mk (Kd.V_afterv (ok := (fun k_ => (P0_ k_ ∨ w.heap.size ≤ k_))) (by (with_reducible repeat (first | apply Kd.V_alloc | apply Kd.V_drewN | apply Kd.V_drew)); exact HO_0.out) hg hat); have n1_ := Aside0.mk (Kd.V_afterv (ok := (fun k_ => (P0_ k_ ∨ w.heap.size ≤ k_))) (by (with_reducible repeat (first | apply Kd.V_alloc | apply Kd.V_drewN | apply Kd.V_drew)); exact HL462_4.out) hg hat); have n2_ := Aside0.mk (Kd.V_afterv (ok := (fun k_ => (P0_ k_ ∨ w.heap.size ≤ k_))) (by (with_reducible repeat (first | apply Kd.V_alloc | apply Kd.V_drewN | apply Kd.V_drew)); exact HL462_5.out) hg hat); have n3_ := Aside0.mk (hb); have n4_ := Aside0.mk (ho); clear HO_0; clear HL462_4; clear HL462_5; clear HB; clear HO_5; have HO_0 := n0_; have HL462_4 := n1_; have HL462_5 := n2_; have HB := n3_; have HO467 := n4_; clear n0_ n1_ n2_ n3_ n4_; clear ho hb hg hat) | ((with_reducible refine qAn (f := 26) rfl ?_); refine goesL_ (some 59) rfl rfl Tryd.func26 (by kernel_rfl) rfl #[.string ((⟨#[107]⟩ : ByteArray) ++ ((⟨#[48, 49, 50, 51, 52, 53, 54, 55]⟩ : ByteArray).extract (x7_2 : Int).toNat ((wrap64 (x7_2 + 1)) : Int).toNat))] rfl (by (try simp only [List.map_toArray, List.map_cons, List.map_nil]); first | done | rfl | (simp only [List.length_drop, List.length_take]; rfl)) ?_; (with_reducible refine (value_Quote.calls k2 ((⟨#[107]⟩ : ByteArray) ++ ((⟨#[48, 49, 50, 51, 52, 53, 54, 55]⟩ : ByteArray).extract (x7_2 : Int).toNat ((wrap64 (x7_2 + 1)) : Int).toNat)) t468 _ A21.out).mono ?_); rintro e w31 ⟨rfl, hb⟩; refine ⟨_, rfl, ?_⟩; have n0_ := Aside0.mk (Kd.V_below (by (with_reducible repeat (first | apply Kd.V_alloc | apply Kd.V_drewN | apply Kd.V_drew)); exact HO_0.out) hb); have n1_ := Aside0.mk (Kd.V_below (by (with_reducible repeat (first | apply Kd.V_alloc | apply Kd.V_drewN | apply Kd.V_drew)); exact HL462_4.out) hb); have n2_ := Aside0.mk (Kd.V_below (by (with_reducible repeat (first | apply Kd.V_alloc | apply Kd.V_drewN | apply Kd.V_drew)); exact HL462_5.out) hb); have n3_ := Aside0.mk (Kd.R_below (by (with_reducible repeat (first | apply Kd.R_alloc | apply Kd.R_drewN | apply Kd.R_drew)); exact HO467.out) hb); have n4_ := Aside0.mk (qAi (by repeat (first | (with_reducible first | exact HB.out | apply qAd | apply qAb | apply qAe) | exact HB.out)) hb); clear HO_0; clear HL462_4; clear HL462_5; clear HO467; clear HB; have HO_0 := n0_; have HL462_4 := n1_; have HL462_5 := n2_; have HO467 := n3_; have HB := n4_; clear n0_ n1_ n2_ n3_ n4_; (try clear hb); (try clear hb2); (try clear hk); (try clear hi)))
                    try any_goals (exfalso; have h_ := Sc13.out; rename_i hb_; (try simp only [ByteArray.size_extract, ByteArray.size_append] at h_ hb_); (try simp only [ByteArray.size, List.size_toArray, List.length_cons, List.length_nil] at h_ hb_); omega)
                    try any_goals (exfalso; have h_ := Sc14.out; rename_i hb_; (try simp only [ByteArray.size_extract, ByteArray.size_append] at h_ hb_); (try simp only [ByteArray.size, List.size_toArray, List.length_cons, List.length_nil] at h_ hb_); omega)
                    try any_goals (exfalso; have h_ := Sc18.out; rename_i hb_; (try simp only [ByteArray.size_extract, ByteArray.size_append] at h_ hb_); (try simp only [ByteArray.size, List.size_toArray, List.length_cons, List.length_nil] at h_ hb_); omega)
                    try any_goals (exfalso; have h_ := Sc20.out; rename_i hb_; (try simp only [ByteArray.size_extract, ByteArray.size_append] at h_ hb_); (try simp only [ByteArray.size, List.size_toArray, List.length_cons, List.length_nil] at h_ hb_); omega)
                    try any_goals (exfalso; have h_ := Sc22.out; rename_i hb_; (try simp only [ByteArray.size_extract, ByteArray.size_append] at h_ hb_); (try simp only [ByteArray.size, List.size_toArray, List.length_cons, List.length_nil] at h_ hb_); omega)
                    try any_goals (exfalso; have h_ := Sc23.out; rename_i hb_; (try simp only [ByteArray.size_extract, ByteArray.size_append] at h_ hb_); (try simp only [ByteArray.size, List.size_toArray, List.length_cons, List.length_nil] at h_ hb_); omega)
                    try any_goals (exfalso; have h_ := Sc24.out; rename_i hb_; (try simp only [ByteArray.size_extract, ByteArray.size_append] at h_ hb_); (try simp only [ByteArray.size, List.size_toArray, List.length_cons, List.length_nil] at h_ hb_); omega)
                    go_roundg k2
                    case measure => have := HJ1.out; have := HK2.out; omega
                    case rel => exact ⟨((x3_2 ++ (⟨#[44]⟩ : ByteArray)) ++ t463), ((((x4_2 ++ (⟨#[44]⟩ : ByteArray)) ++ t468) ++ (⟨#[58]⟩ : ByteArray)) ++ t463), (y465), (false), (wrap64 (x7_2 + 1)), (by first | rfl | (simp; done) | (simp [*]; done) | exact congrArg Value.bool (nil_ne _) | exact congrArg Value.bool (nil_eq _) | exact congrArg Value.bool (nil_ne' _)), (by first | rfl | (simp; done) | (simp [*]; done) | exact congrArg Value.bool (nil_ne _) | exact congrArg Value.bool (nil_eq _) | exact congrArg Value.bool (nil_ne' _)), (by first | rfl | (simp; done) | (simp [*]; done) | exact congrArg Value.bool (nil_ne _) | exact congrArg Value.bool (nil_eq _) | exact congrArg Value.bool (nil_ne' _)), (by first | rfl | (simp; done) | (simp [*]; done) | exact congrArg Value.bool (nil_ne _) | exact congrArg Value.bool (nil_eq _) | exact congrArg Value.bool (nil_ne' _)), H', ⟨by have := HJ1.out; have := HK2.out; omega⟩, ⟨by (with_reducible repeat (first | apply Kd.V_alloc | apply Kd.V_drewN | apply Kd.V_drew)); exact HO_0.out⟩, ⟨by (with_reducible repeat (first | apply Kd.R_alloc | apply Kd.R_drewN | apply Kd.R_drew)); exact HO467.out⟩, ⟨by repeat (first | (with_reducible first | exact HB.out | apply qAd | apply qAb | apply qAe) | exact HB.out)⟩⟩
                  ·rw [if_neg c24] at H
                   exact absurd H (by simp)
                 ·rw [if_neg c23] at H
                  exact absurd H (by simp)
                ·rw [if_neg c22] at H
                 exact absurd H (by simp)
               ·rw [if_neg c20] at H
                exact absurd H (by simp)
              ·rw [if_neg c19] at H
               exact absurd H (by simp)
             ·rw [if_neg c18] at H
              exact absurd H (by simp)
            ·rw [if_neg c17] at H
             exact absurd H (by simp)
           ·rw [if_neg c16] at H
            exact absurd H (by simp)
          ·rw [if_neg c14] at H
           exact absurd H (by simp)
         ·rw [if_neg c13] at H
          exact absurd H (by simp)
        ·rw [if_neg c12] at H
         have c12b0 : decide (0 < x7_2) = false := decide_eq_false c12
         clear c12
         have c32b0 := eq_true (of_decide_eq_true (by first | (with_reducible assumption) | assumption) : 0 ≤ x7_2)
         by_cases c33 : x7_2 ≤ (wrap64 (x7_2 + 1))
         ·rw [if_pos c33] at H
          have c33b0 := eq_true c33
          have c33b1 : decide (x7_2 ≤ (wrap64 (x7_2 + 1))) = true := decide_eq_true c33
          by_cases c34 : (wrap64 (x7_2 + 1)) ≤ 8
          ·rw [if_pos c34] at H
           have c34b0 := eq_true c34
           have c34b1 : decide ((wrap64 (x7_2 + 1)) ≤ 8) = true := decide_eq_true c34
           by_cases c35 : 1 + ((⟨#[48, 49, 50, 51, 52, 53, 54, 55]⟩ : ByteArray).extract (x7_2 : Int).toNat ((wrap64 (x7_2 + 1)) : Int).toNat).size ≤ 9223372036854775807
           ·rw [if_pos c35] at H
            have c35b0 := eq_true c35
            have c35b1 : decide (1 + ((⟨#[48, 49, 50, 51, 52, 53, 54, 55]⟩ : ByteArray).extract (x7_2 : Int).toNat ((wrap64 (x7_2 + 1)) : Int).toNat).size ≤ 9223372036854775807) = true := decide_eq_true c35
            try have c35b2 : (9223372036854775807 < 1 + ((⟨#[48, 49, 50, 51, 52, 53, 54, 55]⟩ : ByteArray).extract (x7_2 : Int).toNat ((wrap64 (x7_2 + 1)) : Int).toNat).size) = False := eq_false (Nat.not_lt.2 c35)
            have Sc35 := Aside0.mk c35
            clear c35
            by_cases c36 : x5_2.length < 8796093022208
            ·rw [if_pos c36] at H
             have LMc36 := Aside0.mk c36
             clear c36
             obtain ⟨y469, hy469⟩ : ∃ y_ : List ByteArray, y_ = (x5_2 ++ [(⟨#[107]⟩ : ByteArray) ++ ((⟨#[48, 49, 50, 51, 52, 53, 54, 55]⟩ : ByteArray).extract (x7_2 : Int).toNat ((wrap64 (x7_2 + 1)) : Int).toNat)]) := ⟨_, rfl⟩
             replace H : (if x3_2.size + t463.size ≤ 9223372036854775807 then ((value_Quote.f k2 ((⟨#[107]⟩ : ByteArray) ++ ((⟨#[48, 49, 50, 51, 52, 53, 54, 55]⟩ : ByteArray).extract (x7_2 : Int).toNat ((wrap64 (x7_2 + 1)) : Int).toNat))).bind fun t472 => (if x4_2.size + t472.size ≤ 9223372036854775807 then (if (x4_2 ++ t472).size + 1 ≤ 9223372036854775807 then (if ((x4_2 ++ t472) ++ (⟨#[58]⟩ : ByteArray)).size + t463.size ≤ 9223372036854775807 then (if x6_2 = true then (hogsheadlaw15_ValueParts.l0 k2 l0 (x3_2 ++ t463) (((x4_2 ++ t472) ++ (⟨#[58]⟩ : ByteArray)) ++ t463) y469 (t464 == 0) (wrap64 (x7_2 + 1))) else (hogsheadlaw15_ValueParts.l0 k2 l0 (x3_2 ++ t463) (((x4_2 ++ t472) ++ (⟨#[58]⟩ : ByteArray)) ++ t463) y469 false (wrap64 (x7_2 + 1)))) else (none)) else (none)) else (none))) else (none)) = some r := by first | (rw [hy469]; with_reducible exact H) | (have H2_ := (Option.bind_some _ _).symm.trans H; rw [hy469]; with_reducible exact H2_) | (have H2_ := (Option.bind_some _ _).symm.trans H; with_reducible exact H2_) | with_reducible exact H | (rw [hy469]; exact H) | exact H
             have Ny469 := Aside0.mk hy469
             clear hy469
             by_cases c37 : x3_2.size + t463.size ≤ 9223372036854775807
             ·rw [if_pos c37] at H
              have c37b0 := eq_true c37
              have c37b1 : decide (x3_2.size + t463.size ≤ 9223372036854775807) = true := decide_eq_true c37
              try have c37b2 : (9223372036854775807 < x3_2.size + t463.size) = False := eq_false (Nat.not_lt.2 c37)
              have Sc37 := Aside0.mk c37
              clear c37
              replace H := Option.bind_eq_some_iff.mp H
              obtain ⟨t472, A380, H⟩ := H
              replace H : (if x4_2.size + t472.size ≤ 9223372036854775807 then (if (x4_2 ++ t472).size + 1 ≤ 9223372036854775807 then (if ((x4_2 ++ t472) ++ (⟨#[58]⟩ : ByteArray)).size + t463.size ≤ 9223372036854775807 then (if x6_2 = true then (hogsheadlaw15_ValueParts.l0 k2 l0 (x3_2 ++ t463) (((x4_2 ++ t472) ++ (⟨#[58]⟩ : ByteArray)) ++ t463) y469 (t464 == 0) (wrap64 (x7_2 + 1))) else (hogsheadlaw15_ValueParts.l0 k2 l0 (x3_2 ++ t463) (((x4_2 ++ t472) ++ (⟨#[58]⟩ : ByteArray)) ++ t463) y469 false (wrap64 (x7_2 + 1)))) else (none)) else (none)) else (none)) = some r := H
              have A38 := Aside0.mk A380
              clear A380
              by_cases c39 : x4_2.size + t472.size ≤ 9223372036854775807
              ·rw [if_pos c39] at H
               have c39b0 := eq_true c39
               have c39b1 : decide (x4_2.size + t472.size ≤ 9223372036854775807) = true := decide_eq_true c39
               try have c39b2 : (9223372036854775807 < x4_2.size + t472.size) = False := eq_false (Nat.not_lt.2 c39)
               have Sc39 := Aside0.mk c39
               clear c39
               by_cases c40 : (x4_2 ++ t472).size + 1 ≤ 9223372036854775807
               ·rw [if_pos c40] at H
                have c40b0 := eq_true c40
                have c40b1 : decide ((x4_2 ++ t472).size + 1 ≤ 9223372036854775807) = true := decide_eq_true c40
                try have c40b2 : (9223372036854775807 < (x4_2 ++ t472).size + 1) = False := eq_false (Nat.not_lt.2 c40)
                have Sc40 := Aside0.mk c40
                clear c40
                by_cases c41 : ((x4_2 ++ t472) ++ (⟨#[58]⟩ : ByteArray)).size + t463.size ≤ 9223372036854775807
                ·rw [if_pos c41] at H
                 have c41b0 := eq_true c41
                 have c41b1 : decide (((x4_2 ++ t472) ++ (⟨#[58]⟩ : ByteArray)).size + t463.size ≤ 9223372036854775807) = true := decide_eq_true c41
                 try have c41b2 : (9223372036854775807 < ((x4_2 ++ t472) ++ (⟨#[58]⟩ : ByteArray)).size + t463.size) = False := eq_false (Nat.not_lt.2 c41)
                 have Sc41 := Aside0.mk c41
                 clear c41
                 by_cases c42 : x6_2 = true
                 ·subst c42
                  have H1 : (hogsheadlaw15_ValueParts.l0 k2 l0 (x3_2 ++ t463) (((x4_2 ++ t472) ++ (⟨#[58]⟩ : ByteArray)) ++ t463) y469 (t464 == 0) (wrap64 (x7_2 + 1))) = some r := by rw [if_pos rfl] at H; exact H
                  clear H
                  have H := H1
                  clear H1
                  have H' := Aside0.mk H
                  clear H
                  have p462 : 0 ≤ (x7_2 : Int) := of_decide_eq_true (by first | (with_reducible assumption) | assumption)
                  have q462 : x7_2 < (l0.length : Int) := of_decide_eq_true (by first | (with_reducible assumption) | assumption)
                  obtain ⟨ad462, A462_4, c462_4, A462_5, c462_5, e462, hx462_0, hx462_1, hx462_2, hx462_3, hx462_4, hx462_5, hl462_4, hi462_4, hl462_5, hi462_5⟩ := at_T25 (Kd.V_reads' HO_0.out).2.2 x7_2 p462 q462
                  cases e462
                  obtain ⟨ce462, hce462, hMe462, hcc462⟩ := Kd.V_get HO_0.out z25 x7_2 p462 (by first | exact q462 | exact of_decide_eq_true (by first | (with_reducible assumption) | assumption) | (have e_ := (Kd.V_reads' HO_0.out).1; omega))
                  obtain ⟨ua462_4, uc462_4, ua462_5, uc462_5, rfl, ul462_4, ge462_4, ul462_5, ge462_5⟩ := qCn hMe462
                  have hv462_4 := hcc462 4 _ rfl
                  rw [qA8 _ _ 4 (by omega)] at hv462_4
                  replace hv462_4 := Option.some.inj (hv462_4.symm.trans hx462_4)
                  injection hv462_4 with hva_ hvn_ hvc_
                  rw [hva_] at ge462_4
                  rw [hvc_] at ul462_4
                  have HL462_4 := Aside0.mk (show Kd.V k25 25 _ w.heap.size _ _ ((rd_T25 l0 x7_2).f4) from Kd.V_mk ul462_4 ge462_4)
                  clear hva_ hvn_ hvc_ ge462_4 ul462_4
                  have hv462_5 := hcc462 5 _ rfl
                  rw [qA8 _ _ 5 (by omega)] at hv462_5
                  replace hv462_5 := Option.some.inj (hv462_5.symm.trans hx462_5)
                  injection hv462_5 with hva_ hvn_ hvc_
                  rw [hva_] at ge462_5
                  rw [hvc_] at ul462_5
                  have HL462_5 := Aside0.mk (show Kd.V Kd.string 9 _ w.heap.size _ _ ((rd_T25 l0 x7_2).f5) from Kd.V_mk ul462_5 ge462_5)
                  clear hva_ hvn_ hvc_ ge462_5 ul462_5
                  clear hcc462 hce462
                  have HR462_4 := Aside0.mk hi462_4
                  have HC462_4 := Aside0.mk hl462_4
                  clear hi462_4 hl462_4
                  have HR462_5 := Aside0.mk hi462_5
                  have HC462_5 := Aside0.mk hl462_5
                  clear hi462_5 hl462_5
                  replace p462 := eq_true p462
                  replace q462 := eq_true q462
                  go_wp2_with (first | ((with_reducible refine qAn (f := 16) rfl ?_); refine goesL_ (some 36) rfl rfl Tryd.func16 (by kernel_rfl) rfl #[.agg #[.int .i64 ((rd_T25 l0 x7_2).f0), .bool ((rd_T25 l0 x7_2).f1), .int .i64 ((rd_T25 l0 x7_2).f2), .string ((rd_T25 l0 x7_2).f3), .slice A462_4 ((rd_T25 l0 x7_2).f4).length c462_4, .slice A462_5 ((rd_T25 l0 x7_2).f5).length c462_5]] rfl (by (try simp only [List.map_toArray, List.map_cons, List.map_nil]); first | done | rfl | (simp only [List.length_drop, List.length_take]; rfl)) ?_; (with_reducible refine (value_Lay.calls k2 ((rd_T25 l0 x7_2).f0) ((rd_T25 l0 x7_2).f1) ((rd_T25 l0 x7_2).f2) ((rd_T25 l0 x7_2).f3) _ _ ((rd_T25 l0 x7_2).f4) _ _ ((rd_T25 l0 x7_2).f5) t463 t464 _ ?side1 ?side2 ?side3 ?side4 ?side5 A11.out).mono ?_); (case side1 => exact ⟨Tabs.below hT.out (by repeat (first | (with_reducible first | exact HB.out | apply qAd | apply qAb | apply qAe) | exact HB.out))⟩); (case side2 => repeat (first | exact (by repeat (first | (with_reducible exact HR462_4.out) | (with_reducible refine Kd.C_alloc ?_ _) | (with_reducible refine Kd.C_drewN ?_ _) | (with_reducible refine Kd.C_drew ?_) | exact HR462_4.out)) | (with_reducible refine Kd.C_alloc ?_ _) | (with_reducible refine Kd.C_drewN ?_ _) | (with_reducible refine Kd.C_drew ?_))); (case side3 => exact HC462_4.out); (case side4 => repeat (first | exact (by repeat (first | (with_reducible exact HR462_5.out) | (with_reducible refine Kd.C_alloc ?_ _) | (with_reducible refine Kd.C_drewN ?_ _) | (with_reducible refine Kd.C_drew ?_) | exact HR462_5.out)) | (with_reducible refine Kd.C_alloc ?_ _) | (with_reducible refine Kd.C_drewN ?_ _) | (with_reducible refine Kd.C_drew ?_))); (case side5 => exact HC462_5.out); rintro e w43 ⟨rfl, hb⟩; refine ⟨_, rfl, ?_⟩; have n0_ := Aside0.mk (Kd.V_below (by (with_reducible repeat (first | apply Kd.V_alloc | apply Kd.V_drewN | apply Kd.V_drew)); exact HO_0.out) hb); have n1_ := Aside0.mk (Kd.R_below (by (with_reducible repeat (first | apply Kd.R_alloc | apply Kd.R_drewN | apply Kd.R_drew)); exact HO_5.out) hb); have n2_ := Aside0.mk (Kd.V_below (by (with_reducible repeat (first | apply Kd.V_alloc | apply Kd.V_drewN | apply Kd.V_drew)); exact HL462_4.out) hb); have n3_ := Aside0.mk (Kd.V_below (by (with_reducible repeat (first | apply Kd.V_alloc | apply Kd.V_drewN | apply Kd.V_drew)); exact HL462_5.out) hb); have n4_ := Aside0.mk (Kd.C_below (by repeat (first | (with_reducible exact HR462_4.out) | (with_reducible refine Kd.C_alloc ?_ _) | (with_reducible refine Kd.C_drewN ?_ _) | (with_reducible refine Kd.C_drew ?_) | exact HR462_4.out)) hb); have n5_ := Aside0.mk (Kd.C_below (by repeat (first | (with_reducible exact HR462_5.out) | (with_reducible refine Kd.C_alloc ?_ _) | (with_reducible refine Kd.C_drewN ?_ _) | (with_reducible refine Kd.C_drew ?_) | exact HR462_5.out)) hb); have n6_ := Aside0.mk (qAi (by repeat (first | (with_reducible first | exact HB.out | apply qAd | apply qAb | apply qAe) | exact HB.out)) hb); clear HO_0; clear HO_5; clear HL462_4; clear HL462_5; clear HR462_4; clear HR462_5; clear HB; have HO_0 := n0_; have HO_5 := n1_; have HL462_4 := n2_; have HL462_5 := n3_; have HR462_4 := n4_; have HR462_5 := n5_; have HB := n6_; clear n0_ n1_ n2_ n3_ n4_ n5_ n6_; (try clear hb); (try clear hb2); (try clear hk); (try clear hi)) | ((with_reducible refine qAw (b := .append) (xs := #[.tmp 50, .tmp 52]) rfl ?_); at_builtin; refine Kd.R_append Kd.string (w0 := w) w.heap.size rfl (.tmp 50) (.tmp 52) 23 9 (.string ⟨#[]⟩) 16 rfl Tryd.underlying23 info9 rfl (by decide) (by omega) u5 x5_2 ((⟨#[107]⟩ : ByteArray) ++ ((⟨#[48, 49, 50, 51, 52, 53, 54, 55]⟩ : ByteArray).extract (x7_2 : Int).toNat ((wrap64 (x7_2 + 1)) : Int).toNat)) [.string ((⟨#[107]⟩ : ByteArray) ++ ((⟨#[48, 49, 50, 51, 52, 53, 54, 55]⟩ : ByteArray).extract (x7_2 : Int).toNat ((wrap64 (x7_2 + 1)) : Int).toNat))] (fun k_ => (w.heap.size ≤ k_)) (fun _ => False) rfl rfl ?aP (fun _ hk => hk.elim) ?aF ?aO ?aB ?aS ?aL ?_; (case aP => exact rfl); (case aB => exact (by repeat (first | (with_reducible first | exact HB.out | apply qAd | apply qAb | apply qAe) | exact HB.out))); (case aF => exact (fun k_ hk => (Nat.le_trans (qAj (by repeat (first | (with_reducible first | exact HB.out | apply qAd | apply qAb | apply qAe) | exact HB.out))) hk))); (case aO => exact (by (with_reducible repeat (first | apply Kd.R_alloc | apply Kd.R_drewN | apply Kd.R_drew)); exact HO_5.out)); (case aS => exact (qAj (by repeat (first | (with_reducible first | exact HB.out | apply qAd | apply qAb | apply qAe) | exact HB.out)))); (case aL => have := LMc36.out; omega); intro v470 w44 ho hb hg hat; rw [← Ny469.out] at ho; have n0_ := Aside0.mk (Kd.V_afterv (ok := (fun k_ => (P0_ k_ ∨ w.heap.size ≤ k_))) (by (with_reducible repeat (first | apply Kd.V_alloc | apply Kd.V_drewN | apply Kd.V_drew)); exact HO_0.out) hg hat); have n1_ := Aside0.mk (Kd.V_afterv (ok := (fun k_ => (P0_ k_ ∨ w.heap.size ≤ k_))) (by (with_reducible repeat (first | apply Kd.V_alloc | apply Kd.V_drewN | apply Kd.V_drew)); exact HL462_4.out) hg hat); have n2_ := Aside0.mk (Kd.V_afterv (ok := (fun k_ => (P0_ k_ ∨ w.heap.size ≤ k_))) (by (with_reducible repeat (first | apply Kd.V_alloc | apply Kd.V_drewN | apply Kd.V_drew)); exact HL462_5.out) hg hat); have n3_ := Aside0.mk (hb); have n4_ := Aside0.mk (ho); clear HO_0; clear HL462_4; clear HL462_5; clear HB; clear HO_5; have HO_0 := n0_; have HL462_4 := n1_; have HL462_5 := n2_; have HB := n3_; have HO471 := n4_; clear n0_ n1_ n2_ n3_ n4_; clear ho hb hg hat) | ((with_reducible refine qAn (f := 26) rfl ?_); refine goesL_ (some 59) rfl rfl Tryd.func26 (by kernel_rfl) rfl #[.string ((⟨#[107]⟩ : ByteArray) ++ ((⟨#[48, 49, 50, 51, 52, 53, 54, 55]⟩ : ByteArray).extract (x7_2 : Int).toNat ((wrap64 (x7_2 + 1)) : Int).toNat))] rfl (by (try simp only [List.map_toArray, List.map_cons, List.map_nil]); first | done | rfl | (simp only [List.length_drop, List.length_take]; rfl)) ?_; (with_reducible refine (value_Quote.calls k2 ((⟨#[107]⟩ : ByteArray) ++ ((⟨#[48, 49, 50, 51, 52, 53, 54, 55]⟩ : ByteArray).extract (x7_2 : Int).toNat ((wrap64 (x7_2 + 1)) : Int).toNat)) t472 _ A38.out).mono ?_); rintro e w45 ⟨rfl, hb⟩; refine ⟨_, rfl, ?_⟩; have n0_ := Aside0.mk (Kd.V_below (by (with_reducible repeat (first | apply Kd.V_alloc | apply Kd.V_drewN | apply Kd.V_drew)); exact HO_0.out) hb); have n1_ := Aside0.mk (Kd.V_below (by (with_reducible repeat (first | apply Kd.V_alloc | apply Kd.V_drewN | apply Kd.V_drew)); exact HL462_4.out) hb); have n2_ := Aside0.mk (Kd.V_below (by (with_reducible repeat (first | apply Kd.V_alloc | apply Kd.V_drewN | apply Kd.V_drew)); exact HL462_5.out) hb); have n3_ := Aside0.mk (Kd.R_below (by (with_reducible repeat (first | apply Kd.R_alloc | apply Kd.R_drewN | apply Kd.R_drew)); exact HO471.out) hb); have n4_ := Aside0.mk (qAi (by repeat (first | (with_reducible first | exact HB.out | apply qAd | apply qAb | apply qAe) | exact HB.out)) hb); clear HO_0; clear HL462_4; clear HL462_5; clear HO471; clear HB; have HO_0 := n0_; have HL462_4 := n1_; have HL462_5 := n2_; have HO471 := n3_; have HB := n4_; clear n0_ n1_ n2_ n3_ n4_; (try clear hb); (try clear hb2); (try clear hk); (try clear hi)))
                  try any_goals (exfalso; have h_ := Sc35.out; rename_i hb_; (try simp only [ByteArray.size_extract, ByteArray.size_append] at h_ hb_); (try simp only [ByteArray.size, List.size_toArray, List.length_cons, List.length_nil] at h_ hb_); omega)
                  try any_goals (exfalso; have h_ := Sc37.out; rename_i hb_; (try simp only [ByteArray.size_extract, ByteArray.size_append] at h_ hb_); (try simp only [ByteArray.size, List.size_toArray, List.length_cons, List.length_nil] at h_ hb_); omega)
                  try any_goals (exfalso; have h_ := Sc39.out; rename_i hb_; (try simp only [ByteArray.size_extract, ByteArray.size_append] at h_ hb_); (try simp only [ByteArray.size, List.size_toArray, List.length_cons, List.length_nil] at h_ hb_); omega)
                  try any_goals (exfalso; have h_ := Sc40.out; rename_i hb_; (try simp only [ByteArray.size_extract, ByteArray.size_append] at h_ hb_); (try simp only [ByteArray.size, List.size_toArray, List.length_cons, List.length_nil] at h_ hb_); omega)
                  try any_goals (exfalso; have h_ := Sc41.out; rename_i hb_; (try simp only [ByteArray.size_extract, ByteArray.size_append] at h_ hb_); (try simp only [ByteArray.size, List.size_toArray, List.length_cons, List.length_nil] at h_ hb_); omega)
                  go_roundg k2
                  case measure => have := HJ1.out; have := HK2.out; omega
                  case rel => exact ⟨(x3_2 ++ t463), (((x4_2 ++ t472) ++ (⟨#[58]⟩ : ByteArray)) ++ t463), (y469), ((t464 == 0)), (wrap64 (x7_2 + 1)), (by first | rfl | (simp; done) | (simp [*]; done) | exact congrArg Value.bool (nil_ne _) | exact congrArg Value.bool (nil_eq _) | exact congrArg Value.bool (nil_ne' _)), (by first | rfl | (simp; done) | (simp [*]; done) | exact congrArg Value.bool (nil_ne _) | exact congrArg Value.bool (nil_eq _) | exact congrArg Value.bool (nil_ne' _)), (by first | rfl | (simp; done) | (simp [*]; done) | exact congrArg Value.bool (nil_ne _) | exact congrArg Value.bool (nil_eq _) | exact congrArg Value.bool (nil_ne' _)), (by first | rfl | (simp; done) | (simp [*]; done) | exact congrArg Value.bool (nil_ne _) | exact congrArg Value.bool (nil_eq _) | exact congrArg Value.bool (nil_ne' _)), H', ⟨by have := HJ1.out; have := HK2.out; omega⟩, ⟨by (with_reducible repeat (first | apply Kd.V_alloc | apply Kd.V_drewN | apply Kd.V_drew)); exact HO_0.out⟩, ⟨by (with_reducible repeat (first | apply Kd.R_alloc | apply Kd.R_drewN | apply Kd.R_drew)); exact HO471.out⟩, ⟨by repeat (first | (with_reducible first | exact HB.out | apply qAd | apply qAb | apply qAe) | exact HB.out)⟩⟩
                 ·replace c42 := Bool.eq_false_iff.mpr c42
                  subst c42
                  have H1 : (hogsheadlaw15_ValueParts.l0 k2 l0 (x3_2 ++ t463) (((x4_2 ++ t472) ++ (⟨#[58]⟩ : ByteArray)) ++ t463) y469 false (wrap64 (x7_2 + 1))) = some r := by rw [if_neg (show ¬ (false = true) by decide)] at H; exact H
                  clear H
                  have H := H1
                  clear H1
                  have H' := Aside0.mk H
                  clear H
                  have p462 : 0 ≤ (x7_2 : Int) := of_decide_eq_true (by first | (with_reducible assumption) | assumption)
                  have q462 : x7_2 < (l0.length : Int) := of_decide_eq_true (by first | (with_reducible assumption) | assumption)
                  obtain ⟨ad462, A462_4, c462_4, A462_5, c462_5, e462, hx462_0, hx462_1, hx462_2, hx462_3, hx462_4, hx462_5, hl462_4, hi462_4, hl462_5, hi462_5⟩ := at_T25 (Kd.V_reads' HO_0.out).2.2 x7_2 p462 q462
                  cases e462
                  obtain ⟨ce462, hce462, hMe462, hcc462⟩ := Kd.V_get HO_0.out z25 x7_2 p462 (by first | exact q462 | exact of_decide_eq_true (by first | (with_reducible assumption) | assumption) | (have e_ := (Kd.V_reads' HO_0.out).1; omega))
                  obtain ⟨ua462_4, uc462_4, ua462_5, uc462_5, rfl, ul462_4, ge462_4, ul462_5, ge462_5⟩ := qCn hMe462
                  have hv462_4 := hcc462 4 _ rfl
                  rw [qA8 _ _ 4 (by omega)] at hv462_4
                  replace hv462_4 := Option.some.inj (hv462_4.symm.trans hx462_4)
                  injection hv462_4 with hva_ hvn_ hvc_
                  rw [hva_] at ge462_4
                  rw [hvc_] at ul462_4
                  have HL462_4 := Aside0.mk (show Kd.V k25 25 _ w.heap.size _ _ ((rd_T25 l0 x7_2).f4) from Kd.V_mk ul462_4 ge462_4)
                  clear hva_ hvn_ hvc_ ge462_4 ul462_4
                  have hv462_5 := hcc462 5 _ rfl
                  rw [qA8 _ _ 5 (by omega)] at hv462_5
                  replace hv462_5 := Option.some.inj (hv462_5.symm.trans hx462_5)
                  injection hv462_5 with hva_ hvn_ hvc_
                  rw [hva_] at ge462_5
                  rw [hvc_] at ul462_5
                  have HL462_5 := Aside0.mk (show Kd.V Kd.string 9 _ w.heap.size _ _ ((rd_T25 l0 x7_2).f5) from Kd.V_mk ul462_5 ge462_5)
                  clear hva_ hvn_ hvc_ ge462_5 ul462_5
                  clear hcc462 hce462
                  have HR462_4 := Aside0.mk hi462_4
                  have HC462_4 := Aside0.mk hl462_4
                  clear hi462_4 hl462_4
                  have HR462_5 := Aside0.mk hi462_5
                  have HC462_5 := Aside0.mk hl462_5
                  clear hi462_5 hl462_5
                  replace p462 := eq_true p462
                  replace q462 := eq_true q462
                  go_wp2_with (first | ((with_reducible refine qAn (f := 16) rfl ?_); refine goesL_ (some 36) rfl rfl Tryd.func16 (by kernel_rfl) rfl #[.agg #[.int .i64 ((rd_T25 l0 x7_2).f0), .bool ((rd_T25 l0 x7_2).f1), .int .i64 ((rd_T25 l0 x7_2).f2), .string ((rd_T25 l0 x7_2).f3), .slice A462_4 ((rd_T25 l0 x7_2).f4).length c462_4, .slice A462_5 ((rd_T25 l0 x7_2).f5).length c462_5]] rfl (by (try simp only [List.map_toArray, List.map_cons, List.map_nil]); first | done | rfl | (simp only [List.length_drop, List.length_take]; rfl)) ?_; (with_reducible refine (value_Lay.calls k2 ((rd_T25 l0 x7_2).f0) ((rd_T25 l0 x7_2).f1) ((rd_T25 l0 x7_2).f2) ((rd_T25 l0 x7_2).f3) _ _ ((rd_T25 l0 x7_2).f4) _ _ ((rd_T25 l0 x7_2).f5) t463 t464 _ ?side1 ?side2 ?side3 ?side4 ?side5 A11.out).mono ?_); (case side1 => exact ⟨Tabs.below hT.out (by repeat (first | (with_reducible first | exact HB.out | apply qAd | apply qAb | apply qAe) | exact HB.out))⟩); (case side2 => repeat (first | exact (by repeat (first | (with_reducible exact HR462_4.out) | (with_reducible refine Kd.C_alloc ?_ _) | (with_reducible refine Kd.C_drewN ?_ _) | (with_reducible refine Kd.C_drew ?_) | exact HR462_4.out)) | (with_reducible refine Kd.C_alloc ?_ _) | (with_reducible refine Kd.C_drewN ?_ _) | (with_reducible refine Kd.C_drew ?_))); (case side3 => exact HC462_4.out); (case side4 => repeat (first | exact (by repeat (first | (with_reducible exact HR462_5.out) | (with_reducible refine Kd.C_alloc ?_ _) | (with_reducible refine Kd.C_drewN ?_ _) | (with_reducible refine Kd.C_drew ?_) | exact HR462_5.out)) | (with_reducible refine Kd.C_alloc ?_ _) | (with_reducible refine Kd.C_drewN ?_ _) | (with_reducible refine Kd.C_drew ?_))); (case side5 => exact HC462_5.out); rintro e w46 ⟨rfl, hb⟩; refine ⟨_, rfl, ?_⟩; have n0_ := Aside0.mk (Kd.V_below (by (with_reducible repeat (first | apply Kd.V_alloc | apply Kd.V_drewN | apply Kd.V_drew)); exact HO_0.out) hb); have n1_ := Aside0.mk (Kd.R_below (by (with_reducible repeat (first | apply Kd.R_alloc | apply Kd.R_drewN | apply Kd.R_drew)); exact HO_5.out) hb); have n2_ := Aside0.mk (Kd.V_below (by (with_reducible repeat (first | apply Kd.V_alloc | apply Kd.V_drewN | apply Kd.V_drew)); exact HL462_4.out) hb); have n3_ := Aside0.mk (Kd.V_below (by (with_reducible repeat (first | apply Kd.V_alloc | apply Kd.V_drewN | apply Kd.V_drew)); exact HL462_5.out) hb); have n4_ := Aside0.mk (Kd.C_below (by repeat (first | (with_reducible exact HR462_4.out) | (with_reducible refine Kd.C_alloc ?_ _) | (with_reducible refine Kd.C_drewN ?_ _) | (with_reducible refine Kd.C_drew ?_) | exact HR462_4.out)) hb); have n5_ := Aside0.mk (Kd.C_below (by repeat (first | (with_reducible exact HR462_5.out) | (with_reducible refine Kd.C_alloc ?_ _) | (with_reducible refine Kd.C_drewN ?_ _) | (with_reducible refine Kd.C_drew ?_) | exact HR462_5.out)) hb); have n6_ := Aside0.mk (qAi (by repeat (first | (with_reducible first | exact HB.out | apply qAd | apply qAb | apply qAe) | exact HB.out)) hb); clear HO_0; clear HO_5; clear HL462_4; clear HL462_5; clear HR462_4; clear HR462_5; clear HB; have HO_0 := n0_; have HO_5 := n1_; have HL462_4 := n2_; have HL462_5 := n3_; have HR462_4 := n4_; have HR462_5 := n5_; have HB := n6_; clear n0_ n1_ n2_ n3_ n4_ n5_ n6_; (try clear hb); (try clear hb2); (try clear hk); (try clear hi)) | ((with_reducible refine qAw (b := .append) (xs := #[.tmp 50, .tmp 52]) rfl ?_); at_builtin; refine Kd.R_append Kd.string (w0 := w) w.heap.size rfl (.tmp 50) (.tmp 52) 23 9 (.string ⟨#[]⟩) 16 rfl Tryd.underlying23 info9 rfl (by decide) (by omega) u5 x5_2 ((⟨#[107]⟩ : ByteArray) ++ ((⟨#[48, 49, 50, 51, 52, 53, 54, 55]⟩ : ByteArray).extract (x7_2 : Int).toNat ((wrap64 (x7_2 + 1)) : Int).toNat)) [.string ((⟨#[107]⟩ : ByteArray) ++ ((⟨#[48, 49, 50, 51, 52, 53, 54, 55]⟩ : ByteArray).extract (x7_2 : Int).toNat ((wrap64 (x7_2 + 1)) : Int).toNat))] (fun k_ => (w.heap.size ≤ k_)) (fun _ => False) rfl rfl ?aP (fun _ hk => hk.elim) ?aF ?aO ?aB ?aS ?aL ?_; (case aP => exact rfl); (case aB => exact (by repeat (first | (with_reducible first | exact HB.out | apply qAd | apply qAb | apply qAe) | exact HB.out))); (case aF => exact (fun k_ hk => (Nat.le_trans (qAj (by repeat (first | (with_reducible first | exact HB.out | apply qAd | apply qAb | apply qAe) | exact HB.out))) hk))); (case aO => exact (by (with_reducible repeat (first | apply Kd.R_alloc | apply Kd.R_drewN | apply Kd.R_drew)); exact HO_5.out)); (case aS => exact (qAj (by repeat (first | (with_reducible first | exact HB.out | apply qAd | apply qAb | apply qAe) | exact HB.out)))); (case aL => have := LMc36.out; omega); intro v470 w47 ho hb hg hat; rw [← Ny469.out] at ho; have n0_ := Aside0.mk (Kd.V_afterv (ok := (fun k_ => (P0_ k_ ∨ w.heap.size ≤ k_))) (by (with_reducible repeat (first | apply Kd.V_alloc | apply Kd.V_drewN | apply Kd.V_drew)); exact HO_0.out) hg hat); have n1_ := Aside0.mk (Kd.V_afterv (ok := (fun k_ => (P0_ k_ ∨ w.heap.size ≤ k_))) (by (with_reducible repeat (first | apply Kd.V_alloc | apply Kd.V_drewN | apply Kd.V_drew)); exact HL462_4.out) hg hat); have n2_ := Aside0.mk (Kd.V_afterv (ok := (fun k_ => (P0_ k_ ∨ w.heap.size ≤ k_))) (by (with_reducible repeat (first | apply Kd.V_alloc | apply Kd.V_drewN | apply Kd.V_drew)); exact HL462_5.out) hg hat); have n3_ := Aside0.mk (hb); have n4_ := Aside0.mk (ho); clear HO_0; clear HL462_4; clear HL462_5; clear HB; clear HO_5; have HO_0 := n0_; have HL462_4 := n1_; have HL462_5 := n2_; have HB := n3_; have HO471 := n4_; clear n0_ n1_ n2_ n3_ n4_; clear ho hb hg hat) | ((with_reducible refine qAn (f := 26) rfl ?_); refine goesL_ (some 59) rfl rfl Tryd.func26 (by kernel_rfl) rfl #[.string ((⟨#[107]⟩ : ByteArray) ++ ((⟨#[48, 49, 50, 51, 52, 53, 54, 55]⟩ : ByteArray).extract (x7_2 : Int).toNat ((wrap64 (x7_2 + 1)) : Int).toNat))] rfl (by (try simp only [List.map_toArray, List.map_cons, List.map_nil]); first | done | rfl | (simp only [List.length_drop, List.length_take]; rfl)) ?_; (with_reducible refine (value_Quote.calls k2 ((⟨#[107]⟩ : ByteArray) ++ ((⟨#[48, 49, 50, 51, 52, 53, 54, 55]⟩ : ByteArray).extract (x7_2 : Int).toNat ((wrap64 (x7_2 + 1)) : Int).toNat)) t472 _ A38.out).mono ?_); rintro e w48 ⟨rfl, hb⟩; refine ⟨_, rfl, ?_⟩; have n0_ := Aside0.mk (Kd.V_below (by (with_reducible repeat (first | apply Kd.V_alloc | apply Kd.V_drewN | apply Kd.V_drew)); exact HO_0.out) hb); have n1_ := Aside0.mk (Kd.V_below (by (with_reducible repeat (first | apply Kd.V_alloc | apply Kd.V_drewN | apply Kd.V_drew)); exact HL462_4.out) hb); have n2_ := Aside0.mk (Kd.V_below (by (with_reducible repeat (first | apply Kd.V_alloc | apply Kd.V_drewN | apply Kd.V_drew)); exact HL462_5.out) hb); have n3_ := Aside0.mk (Kd.R_below (by (with_reducible repeat (first | apply Kd.R_alloc | apply Kd.R_drewN | apply Kd.R_drew)); exact HO471.out) hb); have n4_ := Aside0.mk (qAi (by repeat (first | (with_reducible first | exact HB.out | apply qAd | apply qAb | apply qAe) | exact HB.out)) hb); clear HO_0; clear HL462_4; clear HL462_5; clear HO471; clear HB; have HO_0 := n0_; have HL462_4 := n1_; have HL462_5 := n2_; have HO471 := n3_; have HB := n4_; clear n0_ n1_ n2_ n3_ n4_; (try clear hb); (try clear hb2); (try clear hk); (try clear hi)))
                  try any_goals (exfalso; have h_ := Sc35.out; rename_i hb_; (try simp only [ByteArray.size_extract, ByteArray.size_append] at h_ hb_); (try simp only [ByteArray.size, List.size_toArray, List.length_cons, List.length_nil] at h_ hb_); omega)
                  try any_goals (exfalso; have h_ := Sc37.out; rename_i hb_; (try simp only [ByteArray.size_extract, ByteArray.size_append] at h_ hb_); (try simp only [ByteArray.size, List.size_toArray, List.length_cons, List.length_nil] at h_ hb_); omega)
                  try any_goals (exfalso; have h_ := Sc39.out; rename_i hb_; (try simp only [ByteArray.size_extract, ByteArray.size_append] at h_ hb_); (try simp only [ByteArray.size, List.size_toArray, List.length_cons, List.length_nil] at h_ hb_); omega)
                  try any_goals (exfalso; have h_ := Sc40.out; rename_i hb_; (try simp only [ByteArray.size_extract, ByteArray.size_append] at h_ hb_); (try simp only [ByteArray.size, List.size_toArray, List.length_cons, List.length_nil] at h_ hb_); omega)
                  try any_goals (exfalso; have h_ := Sc41.out; rename_i hb_; (try simp only [ByteArray.size_extract, ByteArray.size_append] at h_ hb_); (try simp only [ByteArray.size, List.size_toArray, List.length_cons, List.length_nil] at h_ hb_); omega)
                  go_roundg k2
                  case measure => have := HJ1.out; have := HK2.out; omega
                  case rel => exact ⟨(x3_2 ++ t463), (((x4_2 ++ t472) ++ (⟨#[58]⟩ : ByteArray)) ++ t463), (y469), (false), (wrap64 (x7_2 + 1)), (by first | rfl | (simp; done) | (simp [*]; done) | exact congrArg Value.bool (nil_ne _) | exact congrArg Value.bool (nil_eq _) | exact congrArg Value.bool (nil_ne' _)), (by first | rfl | (simp; done) | (simp [*]; done) | exact congrArg Value.bool (nil_ne _) | exact congrArg Value.bool (nil_eq _) | exact congrArg Value.bool (nil_ne' _)), (by first | rfl | (simp; done) | (simp [*]; done) | exact congrArg Value.bool (nil_ne _) | exact congrArg Value.bool (nil_eq _) | exact congrArg Value.bool (nil_ne' _)), (by first | rfl | (simp; done) | (simp [*]; done) | exact congrArg Value.bool (nil_ne _) | exact congrArg Value.bool (nil_eq _) | exact congrArg Value.bool (nil_ne' _)), H', ⟨by have := HJ1.out; have := HK2.out; omega⟩, ⟨by (with_reducible repeat (first | apply Kd.V_alloc | apply Kd.V_drewN | apply Kd.V_drew)); exact HO_0.out⟩, ⟨by (with_reducible repeat (first | apply Kd.R_alloc | apply Kd.R_drewN | apply Kd.R_drew)); exact HO471.out⟩, ⟨by repeat (first | (with_reducible first | exact HB.out | apply qAd | apply qAb | apply qAe) | exact HB.out)⟩⟩
                ·rw [if_neg c41] at H
                 exact absurd H (by simp)
               ·rw [if_neg c40] at H
                exact absurd H (by simp)
              ·rw [if_neg c39] at H
               exact absurd H (by simp)
             ·rw [if_neg c37] at H
              exact absurd H (by simp)
            ·rw [if_neg c36] at H
             exact absurd H (by simp)
           ·rw [if_neg c35] at H
            exact absurd H (by simp)
          ·rw [if_neg c34] at H
           exact absurd H (by simp)
         ·rw [if_neg c33] at H
          exact absurd H (by simp)
       ·rw [if_neg c10] at H
        exact absurd H (by simp)
      ·rw [if_neg c9] at H
       have c9b0 : decide (x7_2 < (l0.length : Int)) = false := decide_eq_false c9
       clear c9
       by_cases c49 : ([] : List (S25)).length + l0.length < 1599289640401
       ·rw [if_pos c49] at H
        have LMc49 := Aside0.mk c49
        clear c49
        obtain ⟨y473, hy473⟩ : ∃ y_ : List (S25), y_ = (([] : List (S25)) ++ l0) := ⟨_, rfl⟩
        replace H : ((some (([] : List (S25)) ++ l0 : List (S25))).bind fun y477 => ((value_Lay.f k2 4 false 0 (⟨#[]⟩ : ByteArray) y473 ([] : List ByteArray)).bind fun bt481 => ((value_Lay.f k2 5 false 0 (⟨#[]⟩ : ByteArray) y477 x5_2).bind fun bt483 => (if x6_2 = true then (if bt481.2 = 0 then (if x3_2.size + 1 ≤ 9223372036854775807 then (if bt481.1.toList = (x3_2 ++ (⟨#[93]⟩ : ByteArray)).toList then (if bt483.2 = 0 then (if x4_2.size + 1 ≤ 9223372036854775807 then (if bt483.1.toList = (x4_2 ++ (⟨#[125]⟩ : ByteArray)).toList then ((value_Of.f k2 x5_2 l0).bind fun bt486 => ((hogsheadlaw0_SameValue.f k2 bt486.1 bt486.2.1 bt486.2.2.1 bt486.2.2.2.1 bt486.2.2.2.2.1 bt486.2.2.2.2.2 5 false 0 (⟨#[]⟩ : ByteArray) y477 x5_2 100).bind fun t496 => (if t496 = true then ((hogsheadlaw15_awake.f k2).bind fun t497 => (some t497)) else (some false)))) else (some false)) else (none)) else (some false)) else (some false)) else (none)) else (if bt483.2 = bt481.2 then ((value_May.f 4 false 0 (⟨#[]⟩ : ByteArray) y473 ([] : List ByteArray)).bind fun t498 => (if t498 = true then (some false) else ((value_May.f 5 false 0 (⟨#[]⟩ : ByteArray) y477 x5_2).bind fun t499 => (if t499 = true then (some false) else ((hogsheadlaw15_awake.f k2).bind fun t500 => (some t500)))))) else (some false))) else (if bt481.2 = 2 then (if bt483.2 = 2 then (if bt481.1.toList = ([] : List UInt8) then (if bt483.1.toList = ([] : List UInt8) then ((hogsheadlaw15_awake.f k2).bind fun t485 => (some t485)) else (some false)) else (some false)) else (some false)) else (some false)))))) = some r := by first | (rw [hy473]; with_reducible exact H) | (have H2_ := (Option.bind_some _ _).symm.trans H; rw [hy473]; with_reducible exact H2_) | (have H2_ := (Option.bind_some _ _).symm.trans H; with_reducible exact H2_) | with_reducible exact H | (rw [hy473]; exact H) | exact H
        have Ny473 := Aside0.mk hy473
        clear hy473
        obtain ⟨y477, hy477⟩ : ∃ y_ : List (S25), y_ = (([] : List (S25)) ++ l0) := ⟨_, rfl⟩
        replace H : ((value_Lay.f k2 4 false 0 (⟨#[]⟩ : ByteArray) y473 ([] : List ByteArray)).bind fun bt481 => ((value_Lay.f k2 5 false 0 (⟨#[]⟩ : ByteArray) y477 x5_2).bind fun bt483 => (if x6_2 = true then (if bt481.2 = 0 then (if x3_2.size + 1 ≤ 9223372036854775807 then (if bt481.1.toList = (x3_2 ++ (⟨#[93]⟩ : ByteArray)).toList then (if bt483.2 = 0 then (if x4_2.size + 1 ≤ 9223372036854775807 then (if bt483.1.toList = (x4_2 ++ (⟨#[125]⟩ : ByteArray)).toList then ((value_Of.f k2 x5_2 l0).bind fun bt486 => ((hogsheadlaw0_SameValue.f k2 bt486.1 bt486.2.1 bt486.2.2.1 bt486.2.2.2.1 bt486.2.2.2.2.1 bt486.2.2.2.2.2 5 false 0 (⟨#[]⟩ : ByteArray) y477 x5_2 100).bind fun t496 => (if t496 = true then ((hogsheadlaw15_awake.f k2).bind fun t497 => (some t497)) else (some false)))) else (some false)) else (none)) else (some false)) else (some false)) else (none)) else (if bt483.2 = bt481.2 then ((value_May.f 4 false 0 (⟨#[]⟩ : ByteArray) y473 ([] : List ByteArray)).bind fun t498 => (if t498 = true then (some false) else ((value_May.f 5 false 0 (⟨#[]⟩ : ByteArray) y477 x5_2).bind fun t499 => (if t499 = true then (some false) else ((hogsheadlaw15_awake.f k2).bind fun t500 => (some t500)))))) else (some false))) else (if bt481.2 = 2 then (if bt483.2 = 2 then (if bt481.1.toList = ([] : List UInt8) then (if bt483.1.toList = ([] : List UInt8) then ((hogsheadlaw15_awake.f k2).bind fun t485 => (some t485)) else (some false)) else (some false)) else (some false)) else (some false))))) = some r := by first | (rw [hy477]; with_reducible exact H) | (have H2_ := (Option.bind_some _ _).symm.trans H; rw [hy477]; with_reducible exact H2_) | (have H2_ := (Option.bind_some _ _).symm.trans H; with_reducible exact H2_) | with_reducible exact H | (rw [hy477]; exact H) | exact H
        have Ny477 := Aside0.mk hy477
        clear hy477
        replace H := Option.bind_eq_some_iff.mp H
        obtain ⟨⟨t481, t482⟩, A500, H⟩ := H
        replace H : ((value_Lay.f k2 5 false 0 (⟨#[]⟩ : ByteArray) y477 x5_2).bind fun bt483 => (if x6_2 = true then (if t482 = 0 then (if x3_2.size + 1 ≤ 9223372036854775807 then (if t481.toList = (x3_2 ++ (⟨#[93]⟩ : ByteArray)).toList then (if bt483.2 = 0 then (if x4_2.size + 1 ≤ 9223372036854775807 then (if bt483.1.toList = (x4_2 ++ (⟨#[125]⟩ : ByteArray)).toList then ((value_Of.f k2 x5_2 l0).bind fun bt486 => ((hogsheadlaw0_SameValue.f k2 bt486.1 bt486.2.1 bt486.2.2.1 bt486.2.2.2.1 bt486.2.2.2.2.1 bt486.2.2.2.2.2 5 false 0 (⟨#[]⟩ : ByteArray) y477 x5_2 100).bind fun t496 => (if t496 = true then ((hogsheadlaw15_awake.f k2).bind fun t497 => (some t497)) else (some false)))) else (some false)) else (none)) else (some false)) else (some false)) else (none)) else (if bt483.2 = t482 then ((value_May.f 4 false 0 (⟨#[]⟩ : ByteArray) y473 ([] : List ByteArray)).bind fun t498 => (if t498 = true then (some false) else ((value_May.f 5 false 0 (⟨#[]⟩ : ByteArray) y477 x5_2).bind fun t499 => (if t499 = true then (some false) else ((hogsheadlaw15_awake.f k2).bind fun t500 => (some t500)))))) else (some false))) else (if t482 = 2 then (if bt483.2 = 2 then (if t481.toList = ([] : List UInt8) then (if bt483.1.toList = ([] : List UInt8) then ((hogsheadlaw15_awake.f k2).bind fun t485 => (some t485)) else (some false)) else (some false)) else (some false)) else (some false)))) = some r := H
        have A50 := Aside0.mk A500
        clear A500
        replace H := Option.bind_eq_some_iff.mp H
        obtain ⟨⟨t483, t484⟩, A510, H⟩ := H
        replace H : (if x6_2 = true then (if t482 = 0 then (if x3_2.size + 1 ≤ 9223372036854775807 then (if t481.toList = (x3_2 ++ (⟨#[93]⟩ : ByteArray)).toList then (if t484 = 0 then (if x4_2.size + 1 ≤ 9223372036854775807 then (if t483.toList = (x4_2 ++ (⟨#[125]⟩ : ByteArray)).toList then ((value_Of.f k2 x5_2 l0).bind fun bt486 => ((hogsheadlaw0_SameValue.f k2 bt486.1 bt486.2.1 bt486.2.2.1 bt486.2.2.2.1 bt486.2.2.2.2.1 bt486.2.2.2.2.2 5 false 0 (⟨#[]⟩ : ByteArray) y477 x5_2 100).bind fun t496 => (if t496 = true then ((hogsheadlaw15_awake.f k2).bind fun t497 => (some t497)) else (some false)))) else (some false)) else (none)) else (some false)) else (some false)) else (none)) else (if t484 = t482 then ((value_May.f 4 false 0 (⟨#[]⟩ : ByteArray) y473 ([] : List ByteArray)).bind fun t498 => (if t498 = true then (some false) else ((value_May.f 5 false 0 (⟨#[]⟩ : ByteArray) y477 x5_2).bind fun t499 => (if t499 = true then (some false) else ((hogsheadlaw15_awake.f k2).bind fun t500 => (some t500)))))) else (some false))) else (if t482 = 2 then (if t484 = 2 then (if t481.toList = ([] : List UInt8) then (if t483.toList = ([] : List UInt8) then ((hogsheadlaw15_awake.f k2).bind fun t485 => (some t485)) else (some false)) else (some false)) else (some false)) else (some false))) = some r := H
        have A51 := Aside0.mk A510
        clear A510
        by_cases c52 : x6_2 = true
        ·subst c52
         have H1 : (if t482 = 0 then (if x3_2.size + 1 ≤ 9223372036854775807 then (if t481.toList = (x3_2 ++ (⟨#[93]⟩ : ByteArray)).toList then (if t484 = 0 then (if x4_2.size + 1 ≤ 9223372036854775807 then (if t483.toList = (x4_2 ++ (⟨#[125]⟩ : ByteArray)).toList then ((value_Of.f k2 x5_2 l0).bind fun bt486 => ((hogsheadlaw0_SameValue.f k2 bt486.1 bt486.2.1 bt486.2.2.1 bt486.2.2.2.1 bt486.2.2.2.2.1 bt486.2.2.2.2.2 5 false 0 (⟨#[]⟩ : ByteArray) y477 x5_2 100).bind fun t496 => (if t496 = true then ((hogsheadlaw15_awake.f k2).bind fun t497 => (some t497)) else (some false)))) else (some false)) else (none)) else (some false)) else (some false)) else (none)) else (if t484 = t482 then ((value_May.f 4 false 0 (⟨#[]⟩ : ByteArray) y473 ([] : List ByteArray)).bind fun t498 => (if t498 = true then (some false) else ((value_May.f 5 false 0 (⟨#[]⟩ : ByteArray) y477 x5_2).bind fun t499 => (if t499 = true then (some false) else ((hogsheadlaw15_awake.f k2).bind fun t500 => (some t500)))))) else (some false))) = some r := by rw [if_pos rfl] at H; exact H
         clear H
         have H := H1
         clear H1
         by_cases c53 : t482 = 0
         ·rw [if_pos c53] at H
          have c53b0 : (t482 == 0) = true := beq_iff_eq.mpr c53
          have c53b1 : (t482 != 0) = false := bne_eq_false_iff_eq.mpr c53
          clear c53
          by_cases c54 : x3_2.size + 1 ≤ 9223372036854775807
          ·rw [if_pos c54] at H
           have c54b0 := eq_true c54
           have c54b1 : decide (x3_2.size + 1 ≤ 9223372036854775807) = true := decide_eq_true c54
           try have c54b2 : (9223372036854775807 < x3_2.size + 1) = False := eq_false (Nat.not_lt.2 c54)
           have Sc54 := Aside0.mk c54
           clear c54
           by_cases c55 : t481.toList = (x3_2 ++ (⟨#[93]⟩ : ByteArray)).toList
           ·rw [if_pos c55] at H
            have c55b0 : (t481.toList == (x3_2 ++ (⟨#[93]⟩ : ByteArray)).toList) = true := beq_iff_eq.mpr c55
            have c55b1 : (t481.toList != (x3_2 ++ (⟨#[93]⟩ : ByteArray)).toList) = false := bne_eq_false_iff_eq.mpr c55
            clear c55
            by_cases c56 : t484 = 0
            ·rw [if_pos c56] at H
             have c56b0 : (t484 == 0) = true := beq_iff_eq.mpr c56
             have c56b1 : (t484 != 0) = false := bne_eq_false_iff_eq.mpr c56
             clear c56
             by_cases c57 : x4_2.size + 1 ≤ 9223372036854775807
             ·rw [if_pos c57] at H
              have c57b0 := eq_true c57
              have c57b1 : decide (x4_2.size + 1 ≤ 9223372036854775807) = true := decide_eq_true c57
              try have c57b2 : (9223372036854775807 < x4_2.size + 1) = False := eq_false (Nat.not_lt.2 c57)
              have Sc57 := Aside0.mk c57
              clear c57
              by_cases c58 : t483.toList = (x4_2 ++ (⟨#[125]⟩ : ByteArray)).toList
              ·rw [if_pos c58] at H
               have c58b0 : (t483.toList == (x4_2 ++ (⟨#[125]⟩ : ByteArray)).toList) = true := beq_iff_eq.mpr c58
               have c58b1 : (t483.toList != (x4_2 ++ (⟨#[125]⟩ : ByteArray)).toList) = false := bne_eq_false_iff_eq.mpr c58
               clear c58
               replace H := Option.bind_eq_some_iff.mp H
               obtain ⟨⟨t486, t487, t488, t489, t490, t493⟩, A590, H⟩ := H
               replace H : ((hogsheadlaw0_SameValue.f k2 t486 t487 t488 t489 t490 t493 5 false 0 (⟨#[]⟩ : ByteArray) y477 x5_2 100).bind fun t496 => (if t496 = true then ((hogsheadlaw15_awake.f k2).bind fun t497 => (some t497)) else (some false))) = some r := H
               have A59 := Aside0.mk A590
               clear A590
               replace H := Option.bind_eq_some_iff.mp H
               obtain ⟨t496, A600, H⟩ := H
               replace H : (if t496 = true then ((hogsheadlaw15_awake.f k2).bind fun t497 => (some t497)) else (some false)) = some r := H
               have A60 := Aside0.mk A600
               clear A600
               by_cases c61 : t496 = true
               ·subst c61
                have H1 : ((hogsheadlaw15_awake.f k2).bind fun t497 => (some t497)) = some r := by rw [if_pos rfl] at H; exact H
                clear H
                have H := H1
                clear H1
                replace H := Option.bind_eq_some_iff.mp H
                obtain ⟨t497, A620, H⟩ := H
                replace H : (some t497) = some r := H
                have A62 := Aside0.mk A620
                clear A620
                obtain rfl := Option.some.inj H
                try go_wp2_with (first | ((with_reducible refine qAw (b := .append) (xs := #[.const (.slice none 0 0), .tmp 69]) rfl ?_); at_builtin; refine Kd.N_append_rows k25 (w0 := w) w.heap.size rfl (.const (.slice none 0 0)) (.tmp 69) 22 25 (.agg #[(.int .i64 0), (.bool false), (.int .i64 0), (.string ⟨#[]⟩), (.slice none 0 0), (.slice none 0 0)]) 88 rfl Tryd.underlying22 info25 rfl (by decide) (by omega) (.slice none 0 0) ([] : List (S25)) l0 _ _ _ (fun k_ => (P0_ k_ ∨ w.heap.size ≤ k_) ∧ some k_ ≠ (u5 : Value).ownBlock) (fun k_ => ((fun k_ => (P0_ k_ ∨ w.heap.size ≤ k_) ∧ some k_ ≠ (u5 : Value).ownBlock)) k_ ∧ some k_ ≠ (.slice none 0 0 : Value).ownBlock) rfl rfl ?aO ?aR (fun _ hk => hk) ?aF ?aB ?aS ?aL ?_; (case aR => exact (by skip; exact Kd.V_F (Kd.V_mono (ok' := (fun k_ => ((fun k_ => (P0_ k_ ∨ w.heap.size ≤ k_) ∧ some k_ ≠ (u5 : Value).ownBlock)) k_ ∧ some k_ ≠ (.slice none 0 0 : Value).ownBlock)) (HO_0.out) (fun k_ hk => ⟨⟨hk.1, hk.2⟩, (by simp [Value.ownBlock])⟩)))); (case aB => exact (by repeat (first | (with_reducible first | exact HB.out | apply qAd | apply qAb | apply qAe) | exact HB.out))); (case aF => exact (fun k_ hk => ⟨(.inr (Nat.le_trans (qAj (by repeat (first | (with_reducible first | exact HB.out | apply qAd | apply qAb | apply qAe) | exact HB.out))) hk)), Kd.fresh' (Kd.R_lt (by (with_reducible repeat (first | apply Kd.R_alloc | apply Kd.R_drewN | apply Kd.R_drew)); exact HO_5.out)) k_ hk⟩)); (case aO => exact ((Kd.N_nil _ _ _ _ (fun k_ => (P0_ k_ ∨ w.heap.size ≤ k_) ∧ some k_ ≠ (u5 : Value).ownBlock)))); (case aS => exact (qAj (by repeat (first | (with_reducible first | exact HB.out | apply qAd | apply qAb | apply qAe) | exact HB.out)))); (case aL => have := LMc49.out; omega); intro v474 w63 ho hb hg hat; rw [← Ny473.out] at ho; have n0_ := Aside0.mk (Kd.V_afterv (Kd.V_apart_nil (by (with_reducible repeat (first | apply Kd.V_alloc | apply Kd.V_drewN | apply Kd.V_drew)); exact HO_0.out)) hg hat); have n1_ := Aside0.mk (Kd.R_grown (by (with_reducible repeat (first | apply Kd.R_alloc | apply Kd.R_drewN | apply Kd.R_drew)); exact HO_5.out) hg (fun _ _ => by simp [Value.ownBlock])); have n2_ := Aside0.mk (hb); have n3_ := Aside0.mk (ho); clear HO_0; clear HO_5; clear HB; have HO_0 := n0_; have HO_5 := n1_; have HB := n2_; have HO475 := n3_; clear n0_ n1_ n2_ n3_; clear ho hb hg hat; obtain ⟨Ao64, co64, eo64⟩ := Kd.N_slice HO475.out; subst eo64) | ((with_reducible refine qA0 (N := 11) rfl ?_); refine qAz ?hg (N := 11) ?hd (cs := #[.int .i64 0, .bool false, .int .i64 0, .string (⟨#[]⟩ : ByteArray), .slice none 0 0, .slice none 0 0]) (t := 25) ?hr ?_; (case hd => rfl); (case hg => rfl); (case hr => first | (go_simp; done) | (go_simp; rfl)); intro gb476 hg w65 hbox hb; have n0_ := Aside0.mk (Kd.V_below (Kd.V_elderB (by (with_reducible repeat (first | apply Kd.V_alloc | apply Kd.V_drewN | apply Kd.V_drew)); exact HO_0.out) gb476 (Nat.le_of_eq hg.symm)) hb); have n1_ := Aside0.mk (Kd.R_below (by (with_reducible repeat (first | apply Kd.R_alloc | apply Kd.R_drewN | apply Kd.R_drew)); exact HO_5.out) hb); have n2_ := Aside0.mk (Kd.N_below (Kd.N_elderB (by (with_reducible repeat (first | apply Kd.N_alloc | apply Kd.N_drewN | apply Kd.N_drew)); exact HO475.out) gb476 (Nat.le_of_eq hg.symm)) hb); have n3_ := Aside0.mk (qAi (by repeat (first | (with_reducible first | exact HB.out | apply qAd | apply qAb | apply qAe) | exact HB.out)) hb); have n4_ := Aside0.mk (hbox); have n5_ := Aside0.mk ((by rw [hg]; exact (qAj (by repeat (first | (with_reducible first | exact HB.out | apply qAd | apply qAb | apply qAe) | exact HB.out))) : w.heap.size ≤ gb476)); have n6_ := Aside0.mk ((by rw [hg]; exact (qAj (by repeat (first | (with_reducible first | exact HB.out | apply qAd | apply qAb | apply qAe) | exact HB.out))) : w.heap.size ≤ gb476)); clear HO_0; clear HO_5; clear HO475; clear HB; have HO_0 := n0_; have HO_5 := n1_; have HO475 := n2_; have HB := n3_; have BK476 := n4_; have GW476 := n5_; have GE476 := n6_; clear n0_ n1_ n2_ n3_ n4_ n5_ n6_; clear hb hbox hg; have hcz66_0 : w65.cell? ⟨gb476, 0, none⟩ = some (.int .i64 0) := (qAc BK476.out 0).trans rfl; have hcz66_1 : w65.cell? ⟨gb476, 1, none⟩ = some (.bool false) := (qAc BK476.out 1).trans rfl; have hcz66_2 : w65.cell? ⟨gb476, 2, none⟩ = some (.int .i64 0) := (qAc BK476.out 2).trans rfl; have hcz66_3 : w65.cell? ⟨gb476, 3, none⟩ = some (.string (⟨#[]⟩ : ByteArray)) := (qAc BK476.out 3).trans rfl; have hcz66_4 : w65.cell? ⟨gb476, 4, none⟩ = some (.slice none 0 0) := (qAc BK476.out 4).trans rfl; have hcz66_5 : w65.cell? ⟨gb476, 5, none⟩ = some (.slice none 0 0) := (qAc BK476.out 5).trans rfl; have hfz66_0 := qAa BK476.out 0; have hfz66_1 := qAa BK476.out 1; have hfz66_2 := qAa BK476.out 2; have hfz66_3 := qAa BK476.out 3; have hfz66_4 := qAa BK476.out 4; have hfz66_5 := qAa BK476.out 5) | ((with_reducible refine qAw (b := .append) (xs := #[.const (.slice none 0 0), .tmp 73]) rfl ?_); at_builtin; refine Kd.N_append_rows k25 (w0 := w) w.heap.size rfl (.const (.slice none 0 0)) (.tmp 73) 22 25 (.agg #[(.int .i64 0), (.bool false), (.int .i64 0), (.string ⟨#[]⟩), (.slice none 0 0), (.slice none 0 0)]) 88 rfl Tryd.underlying22 info25 rfl (by decide) (by omega) (.slice none 0 0) ([] : List (S25)) l0 _ _ _ (fun k_ => (P0_ k_ ∨ w.heap.size ≤ k_) ∧ some k_ ≠ (u5 : Value).ownBlock ∧ some k_ ≠ (.slice Ao64 y473.length co64 : Value).ownBlock ∧ k_ ≠ gb476) (fun k_ => ((fun k_ => (P0_ k_ ∨ w.heap.size ≤ k_) ∧ some k_ ≠ (u5 : Value).ownBlock ∧ some k_ ≠ (.slice Ao64 y473.length co64 : Value).ownBlock ∧ k_ ≠ gb476)) k_ ∧ some k_ ≠ (.slice none 0 0 : Value).ownBlock) rfl rfl ?aO ?aR (fun _ hk => hk) ?aF ?aB ?aS ?aL ?_; (case aR => exact (by skip; exact Kd.V_F (Kd.V_mono (ok' := (fun k_ => ((fun k_ => (P0_ k_ ∨ w.heap.size ≤ k_) ∧ some k_ ≠ (u5 : Value).ownBlock ∧ some k_ ≠ (.slice Ao64 y473.length co64 : Value).ownBlock ∧ k_ ≠ gb476)) k_ ∧ some k_ ≠ (.slice none 0 0 : Value).ownBlock)) ((Kd.V_far (p := ⟨gb476, 5, none⟩) (Kd.V_far (p := ⟨gb476, 4, none⟩) (Kd.V_far (p := ⟨gb476, 3, none⟩) (Kd.V_far (p := ⟨gb476, 2, none⟩) (Kd.V_far (p := ⟨gb476, 1, none⟩) (Kd.V_far (p := ⟨gb476, 0, none⟩) (Kd.V_mono HO_0.out (fun k_ hk => (⟨hk, hk.2⟩ : _ ∧ k_ ≠ gb476))) (fun _ hk => hk.2) (.int .i64 4)) (fun _ hk => hk.2) (.bool false)) (fun _ hk => hk.2) (.int .i64 0)) (fun _ hk => hk.2) (.string (⟨#[]⟩ : ByteArray))) (fun _ hk => hk.2) (.slice Ao64 y473.length co64)) (fun _ hk => hk.2) (.slice none 0 0))) (fun k_ hk => ⟨⟨hk.1.1.1.1, ⟨hk.1.1.1.2, ⟨hk.1.1.2, hk.1.2⟩⟩⟩, (by simp [Value.ownBlock])⟩)))); (case aB => exact (by repeat (first | (with_reducible first | exact HB.out | apply qAd | apply qAb | apply qAe | refine qAg ?_ GE476.out) | exact HB.out))); (case aF => exact (fun k_ hk => ⟨(.inr (Nat.le_trans (qAj (by repeat (first | (with_reducible first | exact HB.out | apply qAd | apply qAb | apply qAe | refine qAg ?_ GE476.out) | exact HB.out))) hk)), Kd.fresh' (Kd.R_lt (by (with_reducible repeat (first | apply Kd.R_alloc | apply Kd.R_drewN | apply Kd.R_drew)); exact (Kd.R_mono (Kd.R_far (p := ⟨gb476, 5, none⟩) (Kd.R_far (p := ⟨gb476, 4, none⟩) (Kd.R_far (p := ⟨gb476, 3, none⟩) (Kd.R_far (p := ⟨gb476, 2, none⟩) (Kd.R_far (p := ⟨gb476, 1, none⟩) (Kd.R_far (p := ⟨gb476, 0, none⟩) (Kd.R_types HO_5.out BK476.out (by decide)) (fun _ hk => hk.2) (.int .i64 4)) (fun _ hk => hk.2) (.bool false)) (fun _ hk => hk.2) (.int .i64 0)) (fun _ hk => hk.2) (.string (⟨#[]⟩ : ByteArray))) (fun _ hk => hk.2) (.slice Ao64 y473.length co64)) (fun _ hk => hk.2) (.slice none 0 0)) (fun _ h_ => h_.1)))) k_ hk, Kd.fresh' (Kd.N_lt (by (with_reducible repeat (first | apply Kd.N_alloc | apply Kd.N_drewN | apply Kd.N_drew)); exact (Kd.N_mono (Kd.N_far (p := ⟨gb476, 5, none⟩) (Kd.N_far (p := ⟨gb476, 4, none⟩) (Kd.N_far (p := ⟨gb476, 3, none⟩) (Kd.N_far (p := ⟨gb476, 2, none⟩) (Kd.N_far (p := ⟨gb476, 1, none⟩) (Kd.N_far (p := ⟨gb476, 0, none⟩) (Kd.N_mono HO475.out (fun k_ hk => (⟨hk, hk.2⟩ : _ ∧ k_ ≠ gb476))) (fun _ hk => hk.2) (.int .i64 4)) (fun _ hk => hk.2) (.bool false)) (fun _ hk => hk.2) (.int .i64 0)) (fun _ hk => hk.2) (.string (⟨#[]⟩ : ByteArray))) (fun _ hk => hk.2) (.slice Ao64 y473.length co64)) (fun _ hk => hk.2) (.slice none 0 0)) (fun _ h_ => h_.1)))) k_ hk, Kd.freshB (g := gb476) (o := .cells #[.int .i64 4, .bool false, .int .i64 0, .string (⟨#[]⟩ : ByteArray), .slice Ao64 y473.length co64, .slice none 0 0] 25 (0, 0)) (by (with_reducible repeat (first | refine qAf ?_ _ | refine qAh ?_ | refine blk_alloc ?_ _)); refine qAo (cs := #[.int .i64 4, .bool false, .int .i64 0, .string (⟨#[]⟩ : ByteArray), .slice Ao64 y473.length co64, .slice none 0 0]) ?_ 5 _ rfl; (with_reducible repeat (first | refine qAf ?_ _ | refine qAh ?_ | refine blk_alloc ?_ _)); refine qAo (cs := #[.int .i64 4, .bool false, .int .i64 0, .string (⟨#[]⟩ : ByteArray), .slice none 0 0, .slice none 0 0]) ?_ 4 _ rfl; (with_reducible repeat (first | refine qAf ?_ _ | refine qAh ?_ | refine blk_alloc ?_ _)); refine qAo (cs := #[.int .i64 4, .bool false, .int .i64 0, .string (⟨#[]⟩ : ByteArray), .slice none 0 0, .slice none 0 0]) ?_ 3 _ rfl; (with_reducible repeat (first | refine qAf ?_ _ | refine qAh ?_ | refine blk_alloc ?_ _)); refine qAo (cs := #[.int .i64 4, .bool false, .int .i64 0, .string (⟨#[]⟩ : ByteArray), .slice none 0 0, .slice none 0 0]) ?_ 2 _ rfl; (with_reducible repeat (first | refine qAf ?_ _ | refine qAh ?_ | refine blk_alloc ?_ _)); refine qAo (cs := #[.int .i64 4, .bool false, .int .i64 0, .string (⟨#[]⟩ : ByteArray), .slice none 0 0, .slice none 0 0]) ?_ 1 _ rfl; (with_reducible repeat (first | refine qAf ?_ _ | refine qAh ?_ | refine blk_alloc ?_ _)); refine qAo (cs := #[.int .i64 0, .bool false, .int .i64 0, .string (⟨#[]⟩ : ByteArray), .slice none 0 0, .slice none 0 0]) ?_ 0 _ rfl; (with_reducible repeat (first | refine qAf ?_ _ | refine qAh ?_ | refine blk_alloc ?_ _)); exact BK476.out) k_ hk⟩)); (case aO => exact ((Kd.N_nil _ _ _ _ (fun k_ => (P0_ k_ ∨ w.heap.size ≤ k_) ∧ some k_ ≠ (u5 : Value).ownBlock ∧ some k_ ≠ (.slice Ao64 y473.length co64 : Value).ownBlock ∧ k_ ≠ gb476)))); (case aS => exact (qAj (by repeat (first | (with_reducible first | exact HB.out | apply qAd | apply qAb | apply qAe | refine qAg ?_ GE476.out) | exact HB.out)))); (case aL => have := LMc49.out; omega); intro v478 w67 ho hb hg hat; rw [← Ny477.out] at ho; have n0_ := Aside0.mk (Kd.V_afterv (Kd.V_apart_nil (by (with_reducible repeat (first | apply Kd.V_alloc | apply Kd.V_drewN | apply Kd.V_drew)); exact (Kd.V_mono (Kd.V_far (p := ⟨gb476, 5, none⟩) (Kd.V_far (p := ⟨gb476, 4, none⟩) (Kd.V_far (p := ⟨gb476, 3, none⟩) (Kd.V_far (p := ⟨gb476, 2, none⟩) (Kd.V_far (p := ⟨gb476, 1, none⟩) (Kd.V_far (p := ⟨gb476, 0, none⟩) (Kd.V_mono HO_0.out (fun k_ hk => (⟨hk, hk.2⟩ : _ ∧ k_ ≠ gb476))) (fun _ hk => hk.2) (.int .i64 4)) (fun _ hk => hk.2) (.bool false)) (fun _ hk => hk.2) (.int .i64 0)) (fun _ hk => hk.2) (.string (⟨#[]⟩ : ByteArray))) (fun _ hk => hk.2) (.slice Ao64 y473.length co64)) (fun _ hk => hk.2) (.slice none 0 0)) (fun _ h_ => h_.1)))) hg hat); have n1_ := Aside0.mk (Kd.R_grown (by (with_reducible repeat (first | apply Kd.R_alloc | apply Kd.R_drewN | apply Kd.R_drew)); exact (Kd.R_mono (Kd.R_far (p := ⟨gb476, 5, none⟩) (Kd.R_far (p := ⟨gb476, 4, none⟩) (Kd.R_far (p := ⟨gb476, 3, none⟩) (Kd.R_far (p := ⟨gb476, 2, none⟩) (Kd.R_far (p := ⟨gb476, 1, none⟩) (Kd.R_far (p := ⟨gb476, 0, none⟩) (Kd.R_types HO_5.out BK476.out (by decide)) (fun _ hk => hk.2) (.int .i64 4)) (fun _ hk => hk.2) (.bool false)) (fun _ hk => hk.2) (.int .i64 0)) (fun _ hk => hk.2) (.string (⟨#[]⟩ : ByteArray))) (fun _ hk => hk.2) (.slice Ao64 y473.length co64)) (fun _ hk => hk.2) (.slice none 0 0)) (fun _ h_ => h_.1))) hg (fun _ _ => by simp [Value.ownBlock])); have n2_ := Aside0.mk (Kd.N_afterv (Kd.N_apart_nil (by (with_reducible repeat (first | apply Kd.N_alloc | apply Kd.N_drewN | apply Kd.N_drew)); exact (Kd.N_mono (Kd.N_far (p := ⟨gb476, 5, none⟩) (Kd.N_far (p := ⟨gb476, 4, none⟩) (Kd.N_far (p := ⟨gb476, 3, none⟩) (Kd.N_far (p := ⟨gb476, 2, none⟩) (Kd.N_far (p := ⟨gb476, 1, none⟩) (Kd.N_far (p := ⟨gb476, 0, none⟩) (Kd.N_mono HO475.out (fun k_ hk => (⟨hk, hk.2⟩ : _ ∧ k_ ≠ gb476))) (fun _ hk => hk.2) (.int .i64 4)) (fun _ hk => hk.2) (.bool false)) (fun _ hk => hk.2) (.int .i64 0)) (fun _ hk => hk.2) (.string (⟨#[]⟩ : ByteArray))) (fun _ hk => hk.2) (.slice Ao64 y473.length co64)) (fun _ hk => hk.2) (.slice none 0 0)) (fun _ h_ => h_.1)))) hg hat); have n3_ := Aside0.mk (qBt (g := gb476) (o := .cells #[.int .i64 4, .bool false, .int .i64 0, .string (⟨#[]⟩ : ByteArray), .slice Ao64 y473.length co64, .slice none 0 0] 25 (0, 0)) (by (with_reducible repeat (first | refine qAf ?_ _ | refine qAh ?_ | refine blk_alloc ?_ _)); refine qAo (cs := #[.int .i64 4, .bool false, .int .i64 0, .string (⟨#[]⟩ : ByteArray), .slice Ao64 y473.length co64, .slice none 0 0]) ?_ 5 _ rfl; (with_reducible repeat (first | refine qAf ?_ _ | refine qAh ?_ | refine blk_alloc ?_ _)); refine qAo (cs := #[.int .i64 4, .bool false, .int .i64 0, .string (⟨#[]⟩ : ByteArray), .slice none 0 0, .slice none 0 0]) ?_ 4 _ rfl; (with_reducible repeat (first | refine qAf ?_ _ | refine qAh ?_ | refine blk_alloc ?_ _)); refine qAo (cs := #[.int .i64 4, .bool false, .int .i64 0, .string (⟨#[]⟩ : ByteArray), .slice none 0 0, .slice none 0 0]) ?_ 3 _ rfl; (with_reducible repeat (first | refine qAf ?_ _ | refine qAh ?_ | refine blk_alloc ?_ _)); refine qAo (cs := #[.int .i64 4, .bool false, .int .i64 0, .string (⟨#[]⟩ : ByteArray), .slice none 0 0, .slice none 0 0]) ?_ 2 _ rfl; (with_reducible repeat (first | refine qAf ?_ _ | refine qAh ?_ | refine blk_alloc ?_ _)); refine qAo (cs := #[.int .i64 4, .bool false, .int .i64 0, .string (⟨#[]⟩ : ByteArray), .slice none 0 0, .slice none 0 0]) ?_ 1 _ rfl; (with_reducible repeat (first | refine qAf ?_ _ | refine qAh ?_ | refine blk_alloc ?_ _)); refine qAo (cs := #[.int .i64 0, .bool false, .int .i64 0, .string (⟨#[]⟩ : ByteArray), .slice none 0 0, .slice none 0 0]) ?_ 0 _ rfl; (with_reducible repeat (first | refine qAf ?_ _ | refine qAh ?_ | refine blk_alloc ?_ _)); exact BK476.out) hg (by simp [Value.ownBlock])); have n4_ := Aside0.mk (hb); have n5_ := Aside0.mk (ho); clear HO_0; clear HO_5; clear HO475; clear BK476; clear HB; have HO_0 := n0_; have HO_5 := n1_; have HO475 := n2_; have BK476 := n3_; have HB := n4_; have HO479 := n5_; clear n0_ n1_ n2_ n3_ n4_ n5_; clear ho hb hg hat; obtain ⟨Ao68, co68, eo68⟩ := Kd.R_slice HO_5.out; subst eo68; obtain ⟨Ao69, co69, eo69⟩ := Kd.N_slice HO479.out; subst eo69) | ((with_reducible refine qA0 (N := 12) rfl ?_); refine qAz ?hg (N := 12) ?hd (cs := #[.int .i64 0, .bool false, .int .i64 0, .string (⟨#[]⟩ : ByteArray), .slice none 0 0, .slice none 0 0]) (t := 25) ?hr ?_; (case hd => rfl); (case hg => rfl); (case hr => first | (go_simp; done) | (go_simp; rfl)); intro gb480 hg w70 hbox hb; have n0_ := Aside0.mk (Kd.V_below (Kd.V_elderB (by (with_reducible repeat (first | apply Kd.V_alloc | apply Kd.V_drewN | apply Kd.V_drew)); exact HO_0.out) gb480 (Nat.le_of_eq hg.symm)) hb); have n1_ := Aside0.mk (Kd.R_below (by (with_reducible repeat (first | apply Kd.R_alloc | apply Kd.R_drewN | apply Kd.R_drew)); exact HO_5.out) hb); have n2_ := Aside0.mk (Kd.N_below (Kd.N_elderB (by (with_reducible repeat (first | apply Kd.N_alloc | apply Kd.N_drewN | apply Kd.N_drew)); exact HO475.out) gb480 (Nat.le_of_eq hg.symm)) hb); have n3_ := Aside0.mk (Kd.N_below (Kd.N_elderB (by (with_reducible repeat (first | apply Kd.N_alloc | apply Kd.N_drewN | apply Kd.N_drew)); exact HO479.out) gb480 (Nat.le_of_eq hg.symm)) hb); have n4_ := Aside0.mk (qAk (g := gb476) (o := .cells #[.int .i64 4, .bool false, .int .i64 0, .string (⟨#[]⟩ : ByteArray), .slice Ao64 y473.length co64, .slice none 0 0] 25 (0, 0)) (by (with_reducible repeat (first | refine qAf ?_ _ | refine qAh ?_ | refine blk_alloc ?_ _)); exact BK476.out) hb); have n5_ := Aside0.mk (qAi (by repeat (first | (with_reducible first | exact HB.out | apply qAd | apply qAb | apply qAe | refine qAg ?_ GE476.out) | exact HB.out)) hb); have n6_ := Aside0.mk (hbox); have n7_ := Aside0.mk ((by rw [hg]; exact (qAj (by repeat (first | (with_reducible first | exact HB.out | apply qAd | apply qAb | apply qAe | refine qAg ?_ GE476.out) | exact HB.out))) : w.heap.size ≤ gb480)); have n8_ := Aside0.mk ((by rw [hg]; exact (qAj (by repeat (first | (with_reducible first | exact HB.out | apply qAd | apply qAb | apply qAe | refine qAg ?_ GE476.out) | exact HB.out))) : w.heap.size ≤ gb480)); have n9_ := Aside0.mk ((by rw [hg]; exact Nat.ne_of_lt (blk_lt (g := gb476) (o := .cells #[.int .i64 4, .bool false, .int .i64 0, .string (⟨#[]⟩ : ByteArray), .slice Ao64 y473.length co64, .slice none 0 0] 25 (0, 0)) (by (with_reducible repeat (first | refine qAf ?_ _ | refine qAh ?_ | refine blk_alloc ?_ _)); exact BK476.out)) : gb476 ≠ gb480)); have n10_ := Aside0.mk ((by rw [hg]; exact Nat.ne_of_gt (blk_lt (g := gb476) (o := .cells #[.int .i64 4, .bool false, .int .i64 0, .string (⟨#[]⟩ : ByteArray), .slice Ao64 y473.length co64, .slice none 0 0] 25 (0, 0)) (by (with_reducible repeat (first | refine qAf ?_ _ | refine qAh ?_ | refine blk_alloc ?_ _)); exact BK476.out)) : gb480 ≠ gb476)); clear HO_0; clear HO_5; clear HO475; clear HO479; clear BK476; clear HB; have HO_0 := n0_; have HO_5 := n1_; have HO475 := n2_; have HO479 := n3_; have BK476 := n4_; have HB := n5_; have BK480 := n6_; have GW480 := n7_; have GE480 := n8_; have NB476_480 := n9_; have NB480_476 := n10_; clear n0_ n1_ n2_ n3_ n4_ n5_ n6_ n7_ n8_ n9_ n10_; clear hb hbox hg; have hnb71 := NB480_476.out; have hnc71 := NB476_480.out; have hcz72_0 : w70.cell? ⟨gb480, 0, none⟩ = some (.int .i64 0) := (qAc BK480.out 0).trans rfl; have hcz72_1 : w70.cell? ⟨gb480, 1, none⟩ = some (.bool false) := (qAc BK480.out 1).trans rfl; have hcz72_2 : w70.cell? ⟨gb480, 2, none⟩ = some (.int .i64 0) := (qAc BK480.out 2).trans rfl; have hcz72_3 : w70.cell? ⟨gb480, 3, none⟩ = some (.string (⟨#[]⟩ : ByteArray)) := (qAc BK480.out 3).trans rfl; have hcz72_4 : w70.cell? ⟨gb480, 4, none⟩ = some (.slice none 0 0) := (qAc BK480.out 4).trans rfl; have hcz72_5 : w70.cell? ⟨gb480, 5, none⟩ = some (.slice none 0 0) := (qAc BK480.out 5).trans rfl; have hfz72_0 := qAa BK480.out 0; have hfz72_1 := qAa BK480.out 1; have hfz72_2 := qAa BK480.out 2; have hfz72_3 := qAa BK480.out 3; have hfz72_4 := qAa BK480.out 4; have hfz72_5 := qAa BK480.out 5; have hcz73_0 : w70.cell? ⟨gb476, 0, none⟩ = some (.int .i64 4) := (qAc BK476.out 0).trans rfl; have hcz73_1 : w70.cell? ⟨gb476, 1, none⟩ = some (.bool false) := (qAc BK476.out 1).trans rfl; have hcz73_2 : w70.cell? ⟨gb476, 2, none⟩ = some (.int .i64 0) := (qAc BK476.out 2).trans rfl; have hcz73_3 : w70.cell? ⟨gb476, 3, none⟩ = some (.string (⟨#[]⟩ : ByteArray)) := (qAc BK476.out 3).trans rfl; have hcz73_4 : w70.cell? ⟨gb476, 4, none⟩ = some (.slice Ao64 y473.length co64) := (qAc BK476.out 4).trans rfl; have hcz73_5 : w70.cell? ⟨gb476, 5, none⟩ = some (.slice none 0 0) := (qAc BK476.out 5).trans rfl; have hfz73_0 := qAa BK476.out 0; have hfz73_1 := qAa BK476.out 1; have hfz73_2 := qAa BK476.out 2; have hfz73_3 := qAa BK476.out 3; have hfz73_4 := qAa BK476.out 4; have hfz73_5 := qAa BK476.out 5) | ((with_reducible refine qAn (f := 16) rfl ?_); refine goesL_ (some 78) rfl rfl Tryd.func16 (by kernel_rfl) rfl #[.agg #[.int .i64 4, .bool false, .int .i64 0, .string (⟨#[]⟩ : ByteArray), .slice Ao64 y473.length co64, .slice none 0 0]] rfl (by (try simp only [List.map_toArray, List.map_cons, List.map_nil]); first | done | rfl | (simp only [List.length_drop, List.length_take]; rfl)) ?_; (refine (value_Lay.calls k2 4 false 0 (⟨#[]⟩ : ByteArray) _ _ y473 _ _ ([] : List ByteArray) t481 t482 _ ?side1 ?side2 ?side3 ?side4 ?side5 A50.out).mono ?_); (case side1 => exact ⟨Tabs.below hT.out (by repeat (first | (with_reducible first | exact HB.out | apply qAd | apply qAb | apply qAe | refine qAg ?_ GE476.out | refine qAg ?_ GE480.out) | exact HB.out))⟩); (case side2 => refine (Kd.N_reads' (e := 25) (base := w.heap.size) (ok := fun k_ => (((((P0_ k_ ∨ w.heap.size ≤ k_) ∧ some k_ ≠ (.slice Ao68 x5_2.length co68 : Value).ownBlock) ∧ k_ ≠ gb476) ∧ some k_ ≠ (.slice Ao69 y477.length co69 : Value).ownBlock) ∧ k_ ≠ gb480)) (n := y473.length) (c := co64) ?_).2.2; exact (by (with_reducible repeat (first | apply Kd.N_alloc | apply Kd.N_drewN | apply Kd.N_drew)); exact (Kd.N_mono (Kd.N_far (p := ⟨gb480, 5, none⟩) (Kd.N_far (p := ⟨gb480, 4, none⟩) (Kd.N_far (p := ⟨gb480, 3, none⟩) (Kd.N_far (p := ⟨gb480, 2, none⟩) (Kd.N_far (p := ⟨gb480, 1, none⟩) (Kd.N_far (p := ⟨gb480, 0, none⟩) (Kd.N_mono HO475.out (fun k_ hk => (⟨hk, hk.2⟩ : _ ∧ k_ ≠ gb480))) (fun _ hk => hk.2) (.int .i64 5)) (fun _ hk => hk.2) (.bool false)) (fun _ hk => hk.2) (.int .i64 0)) (fun _ hk => hk.2) (.string (⟨#[]⟩ : ByteArray))) (fun _ hk => hk.2) (.slice Ao69 y477.length co69)) (fun _ hk => hk.2) (.slice Ao68 x5_2.length co68)) (fun _ h_ => h_.1)))); (case side3 => exact (Kd.N_reads' HO475.out).2.1); (case side4 => exact Kd.C_nil _ _); (case side5 => exact Nat.le_refl _); rintro e w74 ⟨rfl, hb⟩; refine ⟨_, rfl, ?_⟩; have n0_ := Aside0.mk (Kd.V_below (by (with_reducible repeat (first | apply Kd.V_alloc | apply Kd.V_drewN | apply Kd.V_drew)); exact (Kd.V_mono (Kd.V_far (p := ⟨gb480, 5, none⟩) (Kd.V_far (p := ⟨gb480, 4, none⟩) (Kd.V_far (p := ⟨gb480, 3, none⟩) (Kd.V_far (p := ⟨gb480, 2, none⟩) (Kd.V_far (p := ⟨gb480, 1, none⟩) (Kd.V_far (p := ⟨gb480, 0, none⟩) (Kd.V_mono HO_0.out (fun k_ hk => (⟨hk, hk.2⟩ : _ ∧ k_ ≠ gb480))) (fun _ hk => hk.2) (.int .i64 5)) (fun _ hk => hk.2) (.bool false)) (fun _ hk => hk.2) (.int .i64 0)) (fun _ hk => hk.2) (.string (⟨#[]⟩ : ByteArray))) (fun _ hk => hk.2) (.slice Ao69 y477.length co69)) (fun _ hk => hk.2) (.slice Ao68 x5_2.length co68)) (fun _ h_ => h_.1))) hb); have n1_ := Aside0.mk (Kd.R_below (by (with_reducible repeat (first | apply Kd.R_alloc | apply Kd.R_drewN | apply Kd.R_drew)); exact (Kd.R_mono (Kd.R_far (p := ⟨gb480, 5, none⟩) (Kd.R_far (p := ⟨gb480, 4, none⟩) (Kd.R_far (p := ⟨gb480, 3, none⟩) (Kd.R_far (p := ⟨gb480, 2, none⟩) (Kd.R_far (p := ⟨gb480, 1, none⟩) (Kd.R_far (p := ⟨gb480, 0, none⟩) (Kd.R_types HO_5.out BK480.out (by decide)) (fun _ hk => hk.2) (.int .i64 5)) (fun _ hk => hk.2) (.bool false)) (fun _ hk => hk.2) (.int .i64 0)) (fun _ hk => hk.2) (.string (⟨#[]⟩ : ByteArray))) (fun _ hk => hk.2) (.slice Ao69 y477.length co69)) (fun _ hk => hk.2) (.slice Ao68 x5_2.length co68)) (fun _ h_ => h_.1))) hb); have n2_ := Aside0.mk (Kd.N_below (by (with_reducible repeat (first | apply Kd.N_alloc | apply Kd.N_drewN | apply Kd.N_drew)); exact (Kd.N_mono (Kd.N_far (p := ⟨gb480, 5, none⟩) (Kd.N_far (p := ⟨gb480, 4, none⟩) (Kd.N_far (p := ⟨gb480, 3, none⟩) (Kd.N_far (p := ⟨gb480, 2, none⟩) (Kd.N_far (p := ⟨gb480, 1, none⟩) (Kd.N_far (p := ⟨gb480, 0, none⟩) (Kd.N_mono HO475.out (fun k_ hk => (⟨hk, hk.2⟩ : _ ∧ k_ ≠ gb480))) (fun _ hk => hk.2) (.int .i64 5)) (fun _ hk => hk.2) (.bool false)) (fun _ hk => hk.2) (.int .i64 0)) (fun _ hk => hk.2) (.string (⟨#[]⟩ : ByteArray))) (fun _ hk => hk.2) (.slice Ao69 y477.length co69)) (fun _ hk => hk.2) (.slice Ao68 x5_2.length co68)) (fun _ h_ => h_.1))) hb); have n3_ := Aside0.mk (Kd.N_below (by (with_reducible repeat (first | apply Kd.N_alloc | apply Kd.N_drewN | apply Kd.N_drew)); exact (Kd.N_mono (Kd.N_far (p := ⟨gb480, 5, none⟩) (Kd.N_far (p := ⟨gb480, 4, none⟩) (Kd.N_far (p := ⟨gb480, 3, none⟩) (Kd.N_far (p := ⟨gb480, 2, none⟩) (Kd.N_far (p := ⟨gb480, 1, none⟩) (Kd.N_far (p := ⟨gb480, 0, none⟩) (Kd.N_mono HO479.out (fun k_ hk => (⟨hk, hk.2⟩ : _ ∧ k_ ≠ gb480))) (fun _ hk => hk.2) (.int .i64 5)) (fun _ hk => hk.2) (.bool false)) (fun _ hk => hk.2) (.int .i64 0)) (fun _ hk => hk.2) (.string (⟨#[]⟩ : ByteArray))) (fun _ hk => hk.2) (.slice Ao69 y477.length co69)) (fun _ hk => hk.2) (.slice Ao68 x5_2.length co68)) (fun _ h_ => h_.1))) hb); have n4_ := Aside0.mk (qAk (g := gb476) (o := .cells #[.int .i64 4, .bool false, .int .i64 0, .string (⟨#[]⟩ : ByteArray), .slice Ao64 y473.length co64, .slice none 0 0] 25 (0, 0)) (by (with_reducible repeat (first | refine qAf ?_ _ | refine qAh ?_ | refine blk_alloc ?_ _)); refine qAv ?_ NB476_480.out _; (with_reducible repeat (first | refine qAf ?_ _ | refine qAh ?_ | refine blk_alloc ?_ _)); refine qAv ?_ NB476_480.out _; (with_reducible repeat (first | refine qAf ?_ _ | refine qAh ?_ | refine blk_alloc ?_ _)); refine qAv ?_ NB476_480.out _; (with_reducible repeat (first | refine qAf ?_ _ | refine qAh ?_ | refine blk_alloc ?_ _)); refine qAv ?_ NB476_480.out _; (with_reducible repeat (first | refine qAf ?_ _ | refine qAh ?_ | refine blk_alloc ?_ _)); refine qAv ?_ NB476_480.out _; (with_reducible repeat (first | refine qAf ?_ _ | refine qAh ?_ | refine blk_alloc ?_ _)); refine qAv ?_ NB476_480.out _; (with_reducible repeat (first | refine qAf ?_ _ | refine qAh ?_ | refine blk_alloc ?_ _)); exact BK476.out) hb); have n5_ := Aside0.mk (qAk (g := gb480) (o := .cells #[.int .i64 5, .bool false, .int .i64 0, .string (⟨#[]⟩ : ByteArray), .slice Ao69 y477.length co69, .slice Ao68 x5_2.length co68] 25 (0, 0)) (by (with_reducible repeat (first | refine qAf ?_ _ | refine qAh ?_ | refine blk_alloc ?_ _)); refine qAo (cs := #[.int .i64 5, .bool false, .int .i64 0, .string (⟨#[]⟩ : ByteArray), .slice Ao69 y477.length co69, .slice none 0 0]) ?_ 5 _ rfl; (with_reducible repeat (first | refine qAf ?_ _ | refine qAh ?_ | refine blk_alloc ?_ _)); refine qAo (cs := #[.int .i64 5, .bool false, .int .i64 0, .string (⟨#[]⟩ : ByteArray), .slice none 0 0, .slice none 0 0]) ?_ 4 _ rfl; (with_reducible repeat (first | refine qAf ?_ _ | refine qAh ?_ | refine blk_alloc ?_ _)); refine qAo (cs := #[.int .i64 5, .bool false, .int .i64 0, .string (⟨#[]⟩ : ByteArray), .slice none 0 0, .slice none 0 0]) ?_ 3 _ rfl; (with_reducible repeat (first | refine qAf ?_ _ | refine qAh ?_ | refine blk_alloc ?_ _)); refine qAo (cs := #[.int .i64 5, .bool false, .int .i64 0, .string (⟨#[]⟩ : ByteArray), .slice none 0 0, .slice none 0 0]) ?_ 2 _ rfl; (with_reducible repeat (first | refine qAf ?_ _ | refine qAh ?_ | refine blk_alloc ?_ _)); refine qAo (cs := #[.int .i64 5, .bool false, .int .i64 0, .string (⟨#[]⟩ : ByteArray), .slice none 0 0, .slice none 0 0]) ?_ 1 _ rfl; (with_reducible repeat (first | refine qAf ?_ _ | refine qAh ?_ | refine blk_alloc ?_ _)); refine qAo (cs := #[.int .i64 0, .bool false, .int .i64 0, .string (⟨#[]⟩ : ByteArray), .slice none 0 0, .slice none 0 0]) ?_ 0 _ rfl; (with_reducible repeat (first | refine qAf ?_ _ | refine qAh ?_ | refine blk_alloc ?_ _)); exact BK480.out) hb); have n6_ := Aside0.mk (qAi (by repeat (first | (with_reducible first | exact HB.out | apply qAd | apply qAb | apply qAe | refine qAg ?_ GE476.out | refine qAg ?_ GE480.out) | exact HB.out)) hb); clear HO_0; clear HO_5; clear HO475; clear HO479; clear BK476; clear BK480; clear HB; have HO_0 := n0_; have HO_5 := n1_; have HO475 := n2_; have HO479 := n3_; have BK476 := n4_; have BK480 := n5_; have HB := n6_; clear n0_ n1_ n2_ n3_ n4_ n5_ n6_; (try clear hb); (try clear hb2); (try clear hk); (try clear hi); have hcz75_0 : w74.cell? ⟨gb480, 0, none⟩ = some (.int .i64 5) := (qAc BK480.out 0).trans rfl; have hcz75_1 : w74.cell? ⟨gb480, 1, none⟩ = some (.bool false) := (qAc BK480.out 1).trans rfl; have hcz75_2 : w74.cell? ⟨gb480, 2, none⟩ = some (.int .i64 0) := (qAc BK480.out 2).trans rfl; have hcz75_3 : w74.cell? ⟨gb480, 3, none⟩ = some (.string (⟨#[]⟩ : ByteArray)) := (qAc BK480.out 3).trans rfl; have hcz75_4 : w74.cell? ⟨gb480, 4, none⟩ = some (.slice Ao69 y477.length co69) := (qAc BK480.out 4).trans rfl; have hcz75_5 : w74.cell? ⟨gb480, 5, none⟩ = some (.slice Ao68 x5_2.length co68) := (qAc BK480.out 5).trans rfl; have hfz75_0 := qAa BK480.out 0; have hfz75_1 := qAa BK480.out 1; have hfz75_2 := qAa BK480.out 2; have hfz75_3 := qAa BK480.out 3; have hfz75_4 := qAa BK480.out 4; have hfz75_5 := qAa BK480.out 5) | ((with_reducible refine qAn (f := 16) rfl ?_); refine goesL_ (some 83) rfl rfl Tryd.func16 (by kernel_rfl) rfl #[.agg #[.int .i64 5, .bool false, .int .i64 0, .string (⟨#[]⟩ : ByteArray), .slice Ao69 y477.length co69, .slice Ao68 x5_2.length co68]] rfl (by (try simp only [List.map_toArray, List.map_cons, List.map_nil]); first | done | rfl | (simp only [List.length_drop, List.length_take]; rfl)) ?_; (with_reducible refine (value_Lay.calls k2 5 false 0 (⟨#[]⟩ : ByteArray) _ _ y477 _ _ x5_2 t483 t484 _ ?side1 ?side2 ?side3 ?side4 ?side5 A51.out).mono ?_); (case side1 => exact ⟨Tabs.below hT.out (by repeat (first | (with_reducible first | exact HB.out | apply qAd | apply qAb | apply qAe | refine qAg ?_ GE476.out | refine qAg ?_ GE480.out) | exact HB.out))⟩); (case side2 => repeat (first | exact (Kd.N_reads' HO479.out).2.2 | (with_reducible refine Kd.C_alloc ?_ _) | (with_reducible refine Kd.C_drewN ?_ _) | (with_reducible refine Kd.C_drew ?_))); (case side3 => exact (Kd.N_reads' HO479.out).2.1); (case side4 => repeat (first | exact (Kd.R_reads' HO_5.out).2.2 | (with_reducible refine Kd.C_alloc ?_ _) | (with_reducible refine Kd.C_drewN ?_ _) | (with_reducible refine Kd.C_drew ?_))); (case side5 => exact (Kd.R_reads' HO_5.out).2.1); rintro e w76 ⟨rfl, hb⟩; refine ⟨_, rfl, ?_⟩; have n0_ := Aside0.mk (Kd.V_below (by (with_reducible repeat (first | apply Kd.V_alloc | apply Kd.V_drewN | apply Kd.V_drew)); exact HO_0.out) hb); have n1_ := Aside0.mk (Kd.R_below (by (with_reducible repeat (first | apply Kd.R_alloc | apply Kd.R_drewN | apply Kd.R_drew)); exact HO_5.out) hb); have n2_ := Aside0.mk (Kd.N_below (by (with_reducible repeat (first | apply Kd.N_alloc | apply Kd.N_drewN | apply Kd.N_drew)); exact HO475.out) hb); have n3_ := Aside0.mk (Kd.N_below (by (with_reducible repeat (first | apply Kd.N_alloc | apply Kd.N_drewN | apply Kd.N_drew)); exact HO479.out) hb); have n4_ := Aside0.mk (qAk (g := gb476) (o := .cells #[.int .i64 4, .bool false, .int .i64 0, .string (⟨#[]⟩ : ByteArray), .slice Ao64 y473.length co64, .slice none 0 0] 25 (0, 0)) (by (with_reducible repeat (first | refine qAf ?_ _ | refine qAh ?_ | refine blk_alloc ?_ _)); exact BK476.out) hb); have n5_ := Aside0.mk (qAk (g := gb480) (o := .cells #[.int .i64 5, .bool false, .int .i64 0, .string (⟨#[]⟩ : ByteArray), .slice Ao69 y477.length co69, .slice Ao68 x5_2.length co68] 25 (0, 0)) (by (with_reducible repeat (first | refine qAf ?_ _ | refine qAh ?_ | refine blk_alloc ?_ _)); exact BK480.out) hb); have n6_ := Aside0.mk (qAi (by repeat (first | (with_reducible first | exact HB.out | apply qAd | apply qAb | apply qAe | refine qAg ?_ GE476.out | refine qAg ?_ GE480.out) | exact HB.out)) hb); clear HO_0; clear HO_5; clear HO475; clear HO479; clear BK476; clear BK480; clear HB; have HO_0 := n0_; have HO_5 := n1_; have HO475 := n2_; have HO479 := n3_; have BK476 := n4_; have BK480 := n5_; have HB := n6_; clear n0_ n1_ n2_ n3_ n4_ n5_ n6_; (try clear hb); (try clear hb2); (try clear hk); (try clear hi)))
                try any_goals (exfalso; have h_ := Sc54.out; rename_i hb_; (try simp only [ByteArray.size_extract, ByteArray.size_append] at h_ hb_); (try simp only [ByteArray.size, List.size_toArray, List.length_cons, List.length_nil] at h_ hb_); omega)
                try any_goals (exfalso; have h_ := Sc57.out; rename_i hb_; (try simp only [ByteArray.size_extract, ByteArray.size_append] at h_ hb_); (try simp only [ByteArray.size, List.size_toArray, List.length_cons, List.length_nil] at h_ hb_); omega)
                have n0_ := Aside0.mk (Kd.V_drew HO_0.out)
                have n1_ := Aside0.mk (Kd.R_drew HO_5.out)
                have n2_ := Aside0.mk (Kd.N_drew HO475.out)
                have n3_ := Aside0.mk (Kd.N_drew HO479.out)
                have n4_ := Aside0.mk (qAh BK476.out)
                have n5_ := Aside0.mk (qAh BK480.out)
                have n6_ := Aside0.mk (qAe HB.out)
                clear HO_0
                clear HO_5
                clear HO475
                clear HO479
                clear BK476
                clear BK480
                clear HB
                have HO_0 := n0_
                have HO_5 := n1_
                have HO475 := n2_
                have HO479 := n3_
                have BK476 := n4_
                have BK480 := n5_
                have HB := n6_
                clear n0_ n1_ n2_ n3_ n4_ n5_ n6_
                refine start_ (n := 25) (S := fun w' => w'.cell? ⟨gb480, 0, none⟩ = some (.int .i64 5) ∧ w'.cell? ⟨gb480, 1, none⟩ = some (.bool false) ∧ w'.cell? ⟨gb480, 2, none⟩ = some (.int .i64 0) ∧ w'.cell? ⟨gb480, 3, none⟩ = some (.string (⟨#[]⟩ : ByteArray)) ∧ w'.cell? ⟨gb480, 4, none⟩ = some (.slice Ao69 y477.length co69) ∧ w'.cell? ⟨gb480, 5, none⟩ = some (.slice Ao68 x5_2.length co68)) (ds := []) #[false, false, false, false, false, false, false, false, false, false, false, false, false, false, false, false, false, false, false, false, false, false, false, false, false] (by kernel_rfl) rfl rfl ⟨(qAc BK480.out 0).trans rfl, (qAc BK480.out 1).trans rfl, (qAc BK480.out 2).trans rfl, (qAc BK480.out 3).trans rfl, (qAc BK480.out 4).trans rfl, (qAc BK480.out 5).trans rfl⟩ (fun hHeld => ?_); refine qB4 hogsheadlaw15_ValueParts.tab24 hogsheadlaw15_ValueParts.bits24 (fun HT_ HW_ => ?_)
                generalize w76.drew = w77 at HO_0 HO_5 HO475 HO479 BK476 BK480 HB hHeld ⊢
                refine pure_ (i := 0) (N := some 123) (v := ?_) (a' := ?_) (hogsheadlaw15_ValueParts.bm 25 1) rfl rfl (any_of HT_.out (by kernel_rfl)) (fun _ _ _ h => h) (Or.inl ⟨by rfl, ?_⟩) ?_ ?_
                rotate_left
                ·intro w'
                 go_simp
                 with_reducible rfl
                rotate_left
                ·simp only [Act.put, List.setIfInBounds_toArray, List.set_cons_zero, List.set_cons_succ, i64_w, i32_w]
                 rfl
                refine pure_ (i := 1) (N := some 124) (v := ?_) (a' := ?_) (hogsheadlaw15_ValueParts.bm 25 3) rfl rfl (any_of HT_.out (by kernel_rfl)) (fun _ _ _ h => h) (Or.inl ⟨by rfl, ?_⟩) ?_ ?_
                rotate_left
                ·intro w'
                 go_simp
                 with_reducible rfl
                rotate_left
                ·simp only [Act.put, List.setIfInBounds_toArray, List.set_cons_zero, List.set_cons_succ, i64_w, i32_w]
                 rfl
                refine pure_ (i := 2) (N := some 125) (v := ?_) (a' := ?_) (hogsheadlaw15_ValueParts.bm 25 7) rfl rfl (any_of HT_.out (by kernel_rfl)) (fun _ _ _ h => h) (Or.inl ⟨by rfl, ?_⟩) ?_ ?_
                rotate_left
                ·intro w'
                 go_simp
                 with_reducible rfl
                rotate_left
                ·simp only [Act.put, List.setIfInBounds_toArray, List.set_cons_zero, List.set_cons_succ, i64_w, i32_w]
                 rfl
                refine pure_ (i := 3) (N := some 126) (v := ?_) (a' := ?_) (hogsheadlaw15_ValueParts.bm 25 15) rfl rfl (any_of HT_.out (by kernel_rfl)) (fun _ _ _ h => h) (Or.inl ⟨by rfl, ?_⟩) ?_ ?_
                rotate_left
                ·intro w'
                 go_simp
                 with_reducible rfl
                rotate_left
                ·simp only [Act.put, List.setIfInBounds_toArray, List.set_cons_zero, List.set_cons_succ, i64_w, i32_w]
                 rfl
                refine pure_ (i := 4) (N := some 127) (v := ?_) (a' := ?_) (hogsheadlaw15_ValueParts.bm 25 31) rfl rfl (any_of HT_.out (by kernel_rfl)) (fun _ _ _ h => h) (Or.inl ⟨by rfl, ?_⟩) ?_ ?_
                rotate_left
                ·intro w'
                 go_simp
                 with_reducible rfl
                rotate_left
                ·simp only [Act.put, List.setIfInBounds_toArray, List.set_cons_zero, List.set_cons_succ, i64_w, i32_w]
                 rfl
                refine pure_ (i := 5) (N := some 128) (v := ?_) (a' := ?_) (hogsheadlaw15_ValueParts.bm 25 63) rfl rfl (any_of HT_.out (by kernel_rfl)) (fun _ _ _ h => h) (Or.inl ⟨by rfl, ?_⟩) ?_ ?_
                rotate_left
                ·intro w'
                 go_simp
                 with_reducible rfl
                rotate_left
                ·simp only [Act.put, List.setIfInBounds_toArray, List.set_cons_zero, List.set_cons_succ, i64_w, i32_w]
                 rfl
                refine pure_ (i := 6) (N := some 129) (v := ?_) (a' := ?_) (hogsheadlaw15_ValueParts.bm 25 127) rfl rfl (any_of HT_.out (by kernel_rfl)) (fun _ _ _ h => h) (Or.inl ⟨by rfl, ?_⟩) ?_ ?_
                rotate_left
                ·intro w'
                 go_simp
                 with_reducible rfl
                rotate_left
                ·simp only [Act.put, List.setIfInBounds_toArray, List.set_cons_zero, List.set_cons_succ, i64_w, i32_w]
                 rfl
                refine pure_ (i := 7) (N := some 130) (v := ?_) (a' := ?_) (hogsheadlaw15_ValueParts.bm 25 255) rfl rfl (any_of HT_.out (by kernel_rfl)) (fun _ _ _ h => h) (Or.inl ⟨by rfl, ?_⟩) ?_ ?_
                rotate_left
                ·intro w'
                 go_simp
                 with_reducible rfl
                rotate_left
                ·simp only [Act.put, List.setIfInBounds_toArray, List.set_cons_zero, List.set_cons_succ, i64_w, i32_w]
                 rfl
                refine pure_ (i := 8) (N := some 131) (v := ?_) (a' := ?_) (hogsheadlaw15_ValueParts.bm 25 511) rfl rfl (any_of HT_.out (by kernel_rfl)) (fun _ _ _ h => h) (Or.inl ⟨by rfl, ?_⟩) ?_ ?_
                rotate_left
                ·intro w'
                 go_simp
                 with_reducible rfl
                rotate_left
                ·simp only [Act.put, List.setIfInBounds_toArray, List.set_cons_zero, List.set_cons_succ, i64_w, i32_w]
                 rfl
                refine pure_ (i := 9) (N := some 132) (v := ?_) (a' := ?_) (hogsheadlaw15_ValueParts.bm 25 1023) rfl rfl (any_of HT_.out (by kernel_rfl)) (fun _ _ _ h => h) (Or.inl ⟨by rfl, ?_⟩) ?_ ?_
                rotate_left
                ·intro w'
                 go_simp
                 with_reducible rfl
                rotate_left
                ·simp only [Act.put, List.setIfInBounds_toArray, List.set_cons_zero, List.set_cons_succ, i64_w, i32_w]
                 rfl
                refine pure_ (i := 10) (N := some 133) (v := ?_) (a' := ?_) (hogsheadlaw15_ValueParts.bm 25 2047) rfl rfl (any_of HT_.out (by kernel_rfl)) (fun _ _ _ h => h) (Or.inl ⟨by rfl, ?_⟩) ?_ ?_
                rotate_left
                ·intro w'
                 go_simp
                 with_reducible rfl
                rotate_left
                ·simp only [Act.put, List.setIfInBounds_toArray, List.set_cons_zero, List.set_cons_succ, i64_w, i32_w]
                 rfl
                refine pure_ (i := 11) (N := some 134) (v := ?_) (a' := ?_) (hogsheadlaw15_ValueParts.bm 25 4095) rfl rfl (any_of HT_.out (by kernel_rfl)) (fun _ _ _ h => h) (Or.inl ⟨by rfl, ?_⟩) ?_ ?_
                rotate_left
                ·intro w'
                 go_simp
                 with_reducible rfl
                rotate_left
                ·simp only [Act.put, List.setIfInBounds_toArray, List.set_cons_zero, List.set_cons_succ, i64_w, i32_w]
                 rfl
                refine pure_ (i := 12) (N := some 135) (v := ?_) (a' := ?_) (hogsheadlaw15_ValueParts.bm 25 8191) rfl rfl (any_of HT_.out (by kernel_rfl)) (fun _ _ _ h => h) (Or.inl ⟨by rfl, ?_⟩) ?_ ?_
                rotate_left
                ·intro w'
                 go_simp
                 with_reducible rfl
                rotate_left
                ·simp only [Act.put, List.setIfInBounds_toArray, List.set_cons_zero, List.set_cons_succ, i64_w, i32_w]
                 rfl
                refine pure_ (i := 13) (N := some 136) (v := ?_) (a' := ?_) (hogsheadlaw15_ValueParts.bm 25 16383) rfl rfl (any_of HT_.out (by kernel_rfl)) (fun _ _ _ h => h) (Or.inl ⟨by rfl, ?_⟩) ?_ ?_
                rotate_left
                ·intro w'
                 go_simp
                 with_reducible rfl
                rotate_left
                ·simp only [Act.put, List.setIfInBounds_toArray, List.set_cons_zero, List.set_cons_succ, i64_w, i32_w]
                 rfl
                refine pure_ (i := 14) (N := some 137) (v := ?_) (a' := ?_) (hogsheadlaw15_ValueParts.bm 25 32767) rfl rfl (any_of HT_.out (by kernel_rfl)) (fun _ _ _ h => h) (Or.inl ⟨by rfl, ?_⟩) ?_ ?_
                rotate_left
                ·intro w'
                 go_simp
                 with_reducible rfl
                rotate_left
                ·simp only [Act.put, List.setIfInBounds_toArray, List.set_cons_zero, List.set_cons_succ, i64_w, i32_w]
                 rfl
                refine pure_ (i := 15) (N := some 138) (v := ?_) (a' := ?_) (hogsheadlaw15_ValueParts.bm 25 65535) rfl rfl (any_of HT_.out (by kernel_rfl)) (fun _ _ _ h => h) (Or.inl ⟨by rfl, ?_⟩) ?_ ?_
                rotate_left
                ·intro w'
                 go_simp
                 with_reducible rfl
                rotate_left
                ·simp only [Act.put, List.setIfInBounds_toArray, List.set_cons_zero, List.set_cons_succ, i64_w, i32_w]
                 rfl
                refine pure_ (i := 16) (N := some 139) (v := ?_) (a' := ?_) (hogsheadlaw15_ValueParts.bm 25 131071) rfl rfl (any_of HT_.out (by kernel_rfl)) (fun _ _ _ h => h) (Or.inl ⟨by rfl, ?_⟩) ?_ ?_
                rotate_left
                ·intro w'
                 go_simp
                 with_reducible rfl
                rotate_left
                ·simp only [Act.put, List.setIfInBounds_toArray, List.set_cons_zero, List.set_cons_succ, i64_w, i32_w]
                 rfl
                refine take_ (i := 18) (N := some 141) (v := ?_) (a' := ?_) (hogsheadlaw15_ValueParts.bm 25 393215) rfl rfl (qBb HT_.out HW_.out (by kernel_rfl)) (fun _ _ _ h => h) (Or.inl ⟨by rfl, ?_⟩) hHeld ?_ ?_
                rotate_left
                ·rintro w' ⟨s0, s1, s2, s3, s4, s5⟩
                 go_simp
                 with_reducible rfl
                rotate_left
                ·simp only [Act.put, List.setIfInBounds_toArray, List.set_cons_zero, List.set_cons_succ, i64_w, i32_w]
                 rfl
                refine one_ (i := 17) (N := some 140) (hogsheadlaw15_ValueParts.bm 25 524287) rfl rfl (one_of HT_.out (by kernel_rfl)) (by decide) (fun K hK => ?_)
                refine goes_ Tryd.func30 (by kernel_rfl) rfl #[.slice Ao68 x5_2.length co68, .slice A0 l0.length c0] (by rfl) rfl rfl (by (try simp only [List.map_toArray, List.map_cons, List.map_nil]); first | done | rfl | (simp only [List.length_drop, List.length_take]; rfl)) ?_
                with_reducible refine (value_Of.calls k2 _ _ x5_2 _ _ l0 t486 t487 t488 t489 t490 t493 _ ?side1 ?side2 ?side3 ?side4 A59.out).mono ?_
                (case side1 => repeat (first | exact (Kd.R_reads' HO_5.out).2.2 | (with_reducible refine Kd.C_alloc ?_ _) | (with_reducible refine Kd.C_drewN ?_ _) | (with_reducible refine Kd.C_drew ?_)))
                (case side2 => exact (Kd.R_reads' HO_5.out).2.1)
                (case side3 => repeat (first | exact (Kd.V_reads' HO_0.out).2.2 | (with_reducible refine Kd.C_alloc ?_ _) | (with_reducible refine Kd.C_drewN ?_ _) | (with_reducible refine Kd.C_drew ?_)))
                (case side4 => exact (Kd.V_reads' HO_0.out).2.1)
                rintro e w78 ⟨v491, v494, rfl, ho0, ho1, hb⟩
                refine ⟨_, rfl, ?_⟩
                have n0_ := Aside0.mk (Kd.V_mono (Kd.V_told (Kd.V_told (Kd.V_old (by (with_reducible repeat (first | apply Kd.V_alloc | apply Kd.V_drewN | apply Kd.V_drew)); exact HO_0.out) hb) (Kd.N_base (Kd.R_N ho0))) (Kd.R_base ho1)) (fun _ h_ => h_.1))
                have n1_ := Aside0.mk (Kd.R_elder' (by (with_reducible repeat (first | apply Kd.R_alloc | apply Kd.R_drewN | apply Kd.R_drew)); exact HO_5.out) (Kd.R_base ho1) hb)
                have n2_ := Aside0.mk (Kd.N_mono (Kd.N_told (Kd.N_told (Kd.N_old (by (with_reducible repeat (first | apply Kd.N_alloc | apply Kd.N_drewN | apply Kd.N_drew)); exact HO475.out) hb) (Kd.N_base (Kd.R_N ho0))) (Kd.R_base ho1)) (fun _ h_ => h_.1))
                have n3_ := Aside0.mk (Kd.N_mono (Kd.N_told (Kd.N_told (Kd.N_old (by (with_reducible repeat (first | apply Kd.N_alloc | apply Kd.N_drewN | apply Kd.N_drew)); exact HO479.out) hb) (Kd.N_base (Kd.R_N ho0))) (Kd.R_base ho1)) (fun _ h_ => h_.1))
                have n4_ := Aside0.mk (Kd.N_lower (Kd.N_mono (ok' := fun k_ => (P0_ k_ ∨ w.heap.size ≤ k_) ∧ some k_ ≠ (v494 : Value).ownBlock ∧ some k_ ≠ (.slice Ao68 x5_2.length co68 : Value).ownBlock ∧ some k_ ≠ (.slice Ao64 y473.length co64 : Value).ownBlock ∧ some k_ ≠ (.slice Ao69 y477.length co69 : Value).ownBlock ∧ k_ ≠ gb476 ∧ k_ ≠ gb480) (Kd.R_N (Kd.R_bound ho0)) (fun k_ hk_ => ⟨(.inr (Nat.le_trans (qAj (by repeat (first | (with_reducible first | exact HB.out | apply qAd | apply qAb | apply qAe | refine qAg ?_ GE476.out | refine qAg ?_ GE480.out) | exact HB.out))) hk_.2.1)), hk_.1, (Kd.fresh' (Kd.R_lt (by (with_reducible repeat (first | apply Kd.R_alloc | apply Kd.R_drewN | apply Kd.R_drew)); exact HO_5.out)) k_ hk_.2.1), (Kd.fresh' (Kd.N_lt (by (with_reducible repeat (first | apply Kd.N_alloc | apply Kd.N_drewN | apply Kd.N_drew)); exact HO475.out)) k_ hk_.2.1), (Kd.fresh' (Kd.N_lt (by (with_reducible repeat (first | apply Kd.N_alloc | apply Kd.N_drewN | apply Kd.N_drew)); exact HO479.out)) k_ hk_.2.1), (Kd.freshB (g := gb476) (o := .cells #[.int .i64 4, .bool false, .int .i64 0, .string (⟨#[]⟩ : ByteArray), .slice Ao64 y473.length co64, .slice none 0 0] 25 (0, 0)) (by (with_reducible repeat (first | refine qAf ?_ _ | refine qAh ?_ | refine blk_alloc ?_ _)); exact BK476.out) k_ hk_.2.1), (Kd.freshB (g := gb480) (o := .cells #[.int .i64 5, .bool false, .int .i64 0, .string (⟨#[]⟩ : ByteArray), .slice Ao69 y477.length co69, .slice Ao68 x5_2.length co68] 25 (0, 0)) (by (with_reducible repeat (first | refine qAf ?_ _ | refine qAh ?_ | refine blk_alloc ?_ _)); exact BK480.out) k_ hk_.2.1)⟩)) (qAj (by repeat (first | (with_reducible first | exact HB.out | apply qAd | apply qAb | apply qAe | refine qAg ?_ GE476.out | refine qAg ?_ GE480.out) | exact HB.out))))
                have n5_ := Aside0.mk (Kd.R_lower (Kd.R_new' (Kd.R_newM (M := fun k_ => (w.heap.size ≤ k_)) ho1 (qAj (by repeat (first | (with_reducible first | exact HB.out | apply qAd | apply qAb | apply qAe | refine qAg ?_ GE476.out | refine qAg ?_ GE480.out) | exact HB.out))) (fun k_ h_ => h_)) (Kd.R_lt (by (with_reducible repeat (first | apply Kd.R_alloc | apply Kd.R_drewN | apply Kd.R_drew)); exact HO_5.out))) (qAj (by repeat (first | (with_reducible first | exact HB.out | apply qAd | apply qAb | apply qAe | refine qAg ?_ GE476.out | refine qAg ?_ GE480.out) | exact HB.out))))
                have n6_ := Aside0.mk (qAk (g := gb476) (o := .cells #[.int .i64 4, .bool false, .int .i64 0, .string (⟨#[]⟩ : ByteArray), .slice Ao64 y473.length co64, .slice none 0 0] 25 (0, 0)) (by (with_reducible repeat (first | refine qAf ?_ _ | refine qAh ?_ | refine blk_alloc ?_ _)); exact BK476.out) hb)
                have n7_ := Aside0.mk (qAk (g := gb480) (o := .cells #[.int .i64 5, .bool false, .int .i64 0, .string (⟨#[]⟩ : ByteArray), .slice Ao69 y477.length co69, .slice Ao68 x5_2.length co68] 25 (0, 0)) (by (with_reducible repeat (first | refine qAf ?_ _ | refine qAh ?_ | refine blk_alloc ?_ _)); exact BK480.out) hb)
                have n8_ := Aside0.mk (qAi (by repeat (first | (with_reducible first | exact HB.out | apply qAd | apply qAb | apply qAe | refine qAg ?_ GE476.out | refine qAg ?_ GE480.out) | exact HB.out)) hb)
                clear HO_0
                clear HO_5
                clear HO475
                clear HO479
                clear BK476
                clear BK480
                clear HB
                have HO_0 := n0_
                have HO_5 := n1_
                have HO475 := n2_
                have HO479 := n3_
                have HO492 := n4_
                have HO495 := n5_
                have BK476 := n6_
                have BK480 := n7_
                have HB := n8_
                clear n0_ n1_ n2_ n3_ n4_ n5_ n6_ n7_ n8_
                (try clear hb)
                (try clear hb2)
                (try clear hk)
                (try clear hi)
                (try clear ho0)
                (try clear ho1)
                obtain ⟨Ao79, co79, eo79⟩ := Kd.N_slice HO492.out
                (first | subst eo79 | (injection eo79 with f1_ f2_ f3_; have f4_ := f1_.symm; have f5_ := f3_.symm; clear f1_ f2_ f3_; subst f4_; subst f5_))
                obtain ⟨Ao80, co80, eo80⟩ := Kd.R_slice HO495.out
                (first | subst eo80 | (injection eo80 with f1_ f2_ f3_; have f4_ := f1_.symm; have f5_ := f3_.symm; clear f1_ f2_ f3_; subst f4_; subst f5_))
                refine hK.out _ _ ⟨(qAc BK480.out 0).trans rfl, (qAc BK480.out 1).trans rfl, (qAc BK480.out 2).trans rfl, (qAc BK480.out 3).trans rfl, (qAc BK480.out 4).trans rfl, (qAc BK480.out 5).trans rfl⟩ (fun hHeld => ?_)
                clear hK K
                refine norm_ (a' := ?_) ?_ ?_
                rotate_left
                ·show Act.put _ (some 140) _ = _
                 simp only [Act.put, List.setIfInBounds_toArray, List.set_cons_zero, List.set_cons_succ, i64_w, i32_w]
                 rfl
                refine one_ (i := 19) (N := some 142) (hogsheadlaw15_ValueParts.bm 25 1048575) rfl rfl (one_of HT_.out (by kernel_rfl)) (by decide) (fun K hK => ?_)
                refine goes_ Tryd.func25 (by kernel_rfl) rfl #[.agg #[.int .i64 t486, .bool t487, .int .i64 t488, .string t489, .slice Ao79 t490.length co79, .slice Ao80 t493.length co80], .agg #[.int .i64 5, .bool false, .int .i64 0, .string (⟨#[]⟩ : ByteArray), .slice Ao69 y477.length co69, .slice Ao68 x5_2.length co68], .int .i64 100] (by rfl) rfl rfl (by (try simp only [List.map_toArray, List.map_cons, List.map_nil]); first | done | rfl | (simp only [List.length_drop, List.length_take]; rfl)) ?_
                with_reducible refine (hogsheadlaw0_SameValue.calls k2 t486 t487 t488 t489 _ _ t490 _ _ t493 5 false 0 (⟨#[]⟩ : ByteArray) _ _ y477 _ _ x5_2 100 true _ ?side1 ?side2 ?side3 ?side4 ?side5 ?side6 ?side7 ?side8 A60.out).mono ?_
                (case side1 => repeat (first | exact (Kd.N_reads' HO492.out).2.2 | (with_reducible refine Kd.C_alloc ?_ _) | (with_reducible refine Kd.C_drewN ?_ _) | (with_reducible refine Kd.C_drew ?_)))
                (case side2 => exact (Kd.N_reads' HO492.out).2.1)
                (case side3 => repeat (first | exact (Kd.R_reads' HO495.out).2.2 | (with_reducible refine Kd.C_alloc ?_ _) | (with_reducible refine Kd.C_drewN ?_ _) | (with_reducible refine Kd.C_drew ?_)))
                (case side4 => exact (Kd.R_reads' HO495.out).2.1)
                (case side5 => repeat (first | exact (Kd.N_reads' HO479.out).2.2 | (with_reducible refine Kd.C_alloc ?_ _) | (with_reducible refine Kd.C_drewN ?_ _) | (with_reducible refine Kd.C_drew ?_)))
                (case side6 => exact (Kd.N_reads' HO479.out).2.1)
                (case side7 => repeat (first | exact (Kd.R_reads' HO_5.out).2.2 | (with_reducible refine Kd.C_alloc ?_ _) | (with_reducible refine Kd.C_drewN ?_ _) | (with_reducible refine Kd.C_drew ?_)))
                (case side8 => exact (Kd.R_reads' HO_5.out).2.1)
                rintro e w81 ⟨rfl, hb⟩
                refine ⟨_, rfl, ?_⟩
                have n0_ := Aside0.mk (Kd.V_below (by (with_reducible repeat (first | apply Kd.V_alloc | apply Kd.V_drewN | apply Kd.V_drew)); exact HO_0.out) hb)
                have n1_ := Aside0.mk (Kd.R_below (by (with_reducible repeat (first | apply Kd.R_alloc | apply Kd.R_drewN | apply Kd.R_drew)); exact HO_5.out) hb)
                have n2_ := Aside0.mk (Kd.N_below (by (with_reducible repeat (first | apply Kd.N_alloc | apply Kd.N_drewN | apply Kd.N_drew)); exact HO475.out) hb)
                have n3_ := Aside0.mk (Kd.N_below (by (with_reducible repeat (first | apply Kd.N_alloc | apply Kd.N_drewN | apply Kd.N_drew)); exact HO479.out) hb)
                have n4_ := Aside0.mk (Kd.N_below (by (with_reducible repeat (first | apply Kd.N_alloc | apply Kd.N_drewN | apply Kd.N_drew)); exact HO492.out) hb)
                have n5_ := Aside0.mk (Kd.R_below (by (with_reducible repeat (first | apply Kd.R_alloc | apply Kd.R_drewN | apply Kd.R_drew)); exact HO495.out) hb)
                have n6_ := Aside0.mk (qAk (g := gb476) (o := .cells #[.int .i64 4, .bool false, .int .i64 0, .string (⟨#[]⟩ : ByteArray), .slice Ao64 y473.length co64, .slice none 0 0] 25 (0, 0)) (by (with_reducible repeat (first | refine qAf ?_ _ | refine qAh ?_ | refine blk_alloc ?_ _)); exact BK476.out) hb)
                have n7_ := Aside0.mk (qAk (g := gb480) (o := .cells #[.int .i64 5, .bool false, .int .i64 0, .string (⟨#[]⟩ : ByteArray), .slice Ao69 y477.length co69, .slice Ao68 x5_2.length co68] 25 (0, 0)) (by (with_reducible repeat (first | refine qAf ?_ _ | refine qAh ?_ | refine blk_alloc ?_ _)); exact BK480.out) hb)
                have n8_ := Aside0.mk (qAi (by repeat (first | (with_reducible first | exact HB.out | apply qAd | apply qAb | apply qAe | refine qAg ?_ GE476.out | refine qAg ?_ GE480.out) | exact HB.out)) hb)
                clear HO_0
                clear HO_5
                clear HO475
                clear HO479
                clear HO492
                clear HO495
                clear BK476
                clear BK480
                clear HB
                have HO_0 := n0_
                have HO_5 := n1_
                have HO475 := n2_
                have HO479 := n3_
                have HO492 := n4_
                have HO495 := n5_
                have BK476 := n6_
                have BK480 := n7_
                have HB := n8_
                clear n0_ n1_ n2_ n3_ n4_ n5_ n6_ n7_ n8_
                (try clear hb)
                (try clear hb2)
                (try clear hk)
                (try clear hi)
                refine hK.out _ _ ⟨(qAc BK480.out 0).trans rfl, (qAc BK480.out 1).trans rfl, (qAc BK480.out 2).trans rfl, (qAc BK480.out 3).trans rfl, (qAc BK480.out 4).trans rfl, (qAc BK480.out 5).trans rfl⟩ (fun hHeld => ?_)
                clear hK K
                refine norm_ (a' := ?_) ?_ ?_
                rotate_left
                ·show Act.put _ (some 142) _ = _
                 simp only [Act.put, List.setIfInBounds_toArray, List.set_cons_zero, List.set_cons_succ, i64_w, i32_w]
                 rfl
                refine pure_ (i := 20) (N := some 143) (v := ?_) (a' := ?_) (hogsheadlaw15_ValueParts.bm 25 2097151) rfl rfl (any_of HT_.out (by kernel_rfl)) (fun _ _ _ h => h) (Or.inl ⟨by rfl, ?_⟩) ?_ ?_
                rotate_left
                ·intro w'
                 go_simp
                 with_reducible rfl
                rotate_left
                ·simp only [Act.put, List.setIfInBounds_toArray, List.set_cons_zero, List.set_cons_succ, i64_w, i32_w]
                 rfl
                refine pure_ (i := 21) (N := some 144) (v := ?_) (a' := ?_) (hogsheadlaw15_ValueParts.bm 25 4194303) rfl rfl (any_of HT_.out (by kernel_rfl)) (fun _ _ _ h => h) (Or.inl ⟨by rfl, ?_⟩) ?_ ?_
                rotate_left
                ·intro w'
                 go_simp
                 with_reducible rfl
                rotate_left
                ·simp only [Act.put, List.setIfInBounds_toArray, List.set_cons_zero, List.set_cons_succ, i64_w, i32_w]
                 rfl
                refine one_ (i := 22) (N := some 145) (hogsheadlaw15_ValueParts.bm 25 8388607) rfl rfl (one_of HT_.out (by kernel_rfl)) (by decide) (fun K hK => ?_)
                refine goes_ Tryd.func15 (by kernel_rfl) rfl #[] (by rfl) rfl rfl (by (try simp only [List.map_toArray, List.map_cons, List.map_nil]); first | done | rfl | (simp only [List.length_drop, List.length_take]; rfl)) ?_
                with_reducible refine (hogsheadlaw15_awake.calls k2  t497 _ ?side1 A62.out).mono ?_
                (case side1 => exact ⟨Tabs.below hT.out (by repeat (first | (with_reducible first | exact HB.out | apply qAd | apply qAb | apply qAe | refine qAg ?_ GE476.out | refine qAg ?_ GE480.out) | exact HB.out))⟩)
                rintro e w82 ⟨rfl, hb⟩
                refine ⟨_, rfl, ?_⟩
                have n0_ := Aside0.mk (Kd.V_below (by (with_reducible repeat (first | apply Kd.V_alloc | apply Kd.V_drewN | apply Kd.V_drew)); exact HO_0.out) hb)
                have n1_ := Aside0.mk (Kd.R_below (by (with_reducible repeat (first | apply Kd.R_alloc | apply Kd.R_drewN | apply Kd.R_drew)); exact HO_5.out) hb)
                have n2_ := Aside0.mk (Kd.N_below (by (with_reducible repeat (first | apply Kd.N_alloc | apply Kd.N_drewN | apply Kd.N_drew)); exact HO475.out) hb)
                have n3_ := Aside0.mk (Kd.N_below (by (with_reducible repeat (first | apply Kd.N_alloc | apply Kd.N_drewN | apply Kd.N_drew)); exact HO479.out) hb)
                have n4_ := Aside0.mk (Kd.N_below (by (with_reducible repeat (first | apply Kd.N_alloc | apply Kd.N_drewN | apply Kd.N_drew)); exact HO492.out) hb)
                have n5_ := Aside0.mk (Kd.R_below (by (with_reducible repeat (first | apply Kd.R_alloc | apply Kd.R_drewN | apply Kd.R_drew)); exact HO495.out) hb)
                have n6_ := Aside0.mk (qAk (g := gb476) (o := .cells #[.int .i64 4, .bool false, .int .i64 0, .string (⟨#[]⟩ : ByteArray), .slice Ao64 y473.length co64, .slice none 0 0] 25 (0, 0)) (by (with_reducible repeat (first | refine qAf ?_ _ | refine qAh ?_ | refine blk_alloc ?_ _)); exact BK476.out) hb)
                have n7_ := Aside0.mk (qAk (g := gb480) (o := .cells #[.int .i64 5, .bool false, .int .i64 0, .string (⟨#[]⟩ : ByteArray), .slice Ao69 y477.length co69, .slice Ao68 x5_2.length co68] 25 (0, 0)) (by (with_reducible repeat (first | refine qAf ?_ _ | refine qAh ?_ | refine blk_alloc ?_ _)); exact BK480.out) hb)
                have n8_ := Aside0.mk (qAi (by repeat (first | (with_reducible first | exact HB.out | apply qAd | apply qAb | apply qAe | refine qAg ?_ GE476.out | refine qAg ?_ GE480.out) | exact HB.out)) hb)
                clear HO_0
                clear HO_5
                clear HO475
                clear HO479
                clear HO492
                clear HO495
                clear BK476
                clear BK480
                clear HB
                have HO_0 := n0_
                have HO_5 := n1_
                have HO475 := n2_
                have HO479 := n3_
                have HO492 := n4_
                have HO495 := n5_
                have BK476 := n6_
                have BK480 := n7_
                have HB := n8_
                clear n0_ n1_ n2_ n3_ n4_ n5_ n6_ n7_ n8_
                (try clear hb)
                (try clear hb2)
                (try clear hk)
                (try clear hi)
                refine hK.out _ _ ⟨(qAc BK480.out 0).trans rfl, (qAc BK480.out 1).trans rfl, (qAc BK480.out 2).trans rfl, (qAc BK480.out 3).trans rfl, (qAc BK480.out 4).trans rfl, (qAc BK480.out 5).trans rfl⟩ (fun hHeld => ?_)
                clear hK K
                refine norm_ (a' := ?_) ?_ ?_
                rotate_left
                ·show Act.put _ (some 145) _ = _
                 simp only [Act.put, List.setIfInBounds_toArray, List.set_cons_zero, List.set_cons_succ, i64_w, i32_w]
                 rfl
                refine pure_ (i := 23) (N := some 146) (v := ?_) (a' := ?_) (hogsheadlaw15_ValueParts.bm 25 16777215) rfl rfl (any_of HT_.out (by kernel_rfl)) (fun _ _ _ h => h) (Or.inl ⟨by rfl, ?_⟩) ?_ ?_
                rotate_left
                ·intro w'
                 go_simp
                 with_reducible rfl
                rotate_left
                ·simp only [Act.put, List.setIfInBounds_toArray, List.set_cons_zero, List.set_cons_succ, i64_w, i32_w]
                 rfl
                refine pure_ (i := 24) (N := some 2) (v := ?_) (a' := ?_) (hogsheadlaw15_ValueParts.bm 25 33554431) rfl rfl (any_of HT_.out (by kernel_rfl)) (fun _ _ _ h => h) (Or.inl ⟨by rfl, ?_⟩) ?_ ?_
                rotate_left
                ·intro w'
                 go_simp
                 with_reducible rfl
                rotate_left
                ·simp only [Act.put, List.setIfInBounds_toArray, List.set_cons_zero, List.set_cons_succ, i64_w, i32_w]
                 rfl
                refine done_ (qDn HT_.out (by kernel_rfl)) ?_
                try go_wp2
                go_ret
                exact ⟨by first | rfl | (simp [qAm, qAl] <;> rfl) | (simp [*, qAm, qAl] <;> rfl), by repeat (first | (with_reducible first | exact HB.out | apply qAd | apply qAb | apply qAe | refine qAg ?_ GE476.out | refine qAg ?_ GE480.out) | exact HB.out)⟩
               ·replace c61 := Bool.eq_false_iff.mpr c61
                subst c61
                have H1 : (some false) = some r := by rw [if_neg (show ¬ (false = true) by decide)] at H; exact H
                clear H
                have H := H1
                clear H1
                exact absurd (H.trans (congrArg some hr_.out)) (by simp)
              ·rw [if_neg c58] at H
               have c58b0 : (t483.toList == (x4_2 ++ (⟨#[125]⟩ : ByteArray)).toList) = false := beq_eq_false_iff_ne.mpr c58
               have c58b1 : (t483.toList != (x4_2 ++ (⟨#[125]⟩ : ByteArray)).toList) = true := bne_iff_ne.mpr c58
               exact absurd (H.trans (congrArg some hr_.out)) (by simp)
             ·rw [if_neg c57] at H
              exact absurd H (by simp)
            ·rw [if_neg c56] at H
             have c56b0 : (t484 == 0) = false := beq_eq_false_iff_ne.mpr c56
             have c56b1 : (t484 != 0) = true := bne_iff_ne.mpr c56
             exact absurd (H.trans (congrArg some hr_.out)) (by simp)
           ·rw [if_neg c55] at H
            have c55b0 : (t481.toList == (x3_2 ++ (⟨#[93]⟩ : ByteArray)).toList) = false := beq_eq_false_iff_ne.mpr c55
            have c55b1 : (t481.toList != (x3_2 ++ (⟨#[93]⟩ : ByteArray)).toList) = true := bne_iff_ne.mpr c55
            exact absurd (H.trans (congrArg some hr_.out)) (by simp)
          ·rw [if_neg c54] at H
           exact absurd H (by simp)
         ·rw [if_neg c53] at H
          have c53b0 : (t482 == 0) = false := beq_eq_false_iff_ne.mpr c53
          have c53b1 : (t482 != 0) = true := bne_iff_ne.mpr c53
          by_cases c83 : t484 = t482
          ·rw [if_pos c83] at H
           have c83b0 : (t484 == t482) = true := beq_iff_eq.mpr c83
           have c83b1 : (t484 != t482) = false := bne_eq_false_iff_eq.mpr c83
           clear c83
           replace H := Option.bind_eq_some_iff.mp H
           obtain ⟨t498, A840, H⟩ := H
           replace H : (if t498 = true then (some false) else ((value_May.f 5 false 0 (⟨#[]⟩ : ByteArray) y477 x5_2).bind fun t499 => (if t499 = true then (some false) else ((hogsheadlaw15_awake.f k2).bind fun t500 => (some t500))))) = some r := H
           have A84 := Aside0.mk A840
           clear A840
           by_cases c85 : t498 = true
           ·subst c85
            have H1 : (some false) = some r := by rw [if_pos rfl] at H; exact H
            clear H
            have H := H1
            clear H1
            exact absurd (H.trans (congrArg some hr_.out)) (by simp)
           ·replace c85 := Bool.eq_false_iff.mpr c85
            subst c85
            have H1 : ((value_May.f 5 false 0 (⟨#[]⟩ : ByteArray) y477 x5_2).bind fun t499 => (if t499 = true then (some false) else ((hogsheadlaw15_awake.f k2).bind fun t500 => (some t500)))) = some r := by rw [if_neg (show ¬ (false = true) by decide)] at H; exact H
            clear H
            have H := H1
            clear H1
            replace H := Option.bind_eq_some_iff.mp H
            obtain ⟨t499, A860, H⟩ := H
            replace H : (if t499 = true then (some false) else ((hogsheadlaw15_awake.f k2).bind fun t500 => (some t500))) = some r := H
            have A86 := Aside0.mk A860
            clear A860
            by_cases c87 : t499 = true
            ·subst c87
             have H1 : (some false) = some r := by rw [if_pos rfl] at H; exact H
             clear H
             have H := H1
             clear H1
             exact absurd (H.trans (congrArg some hr_.out)) (by simp)
            ·replace c87 := Bool.eq_false_iff.mpr c87
             subst c87
             have H1 : ((hogsheadlaw15_awake.f k2).bind fun t500 => (some t500)) = some r := by rw [if_neg (show ¬ (false = true) by decide)] at H; exact H
             clear H
             have H := H1
             clear H1
             replace H := Option.bind_eq_some_iff.mp H
             obtain ⟨t500, A880, H⟩ := H
             replace H : (some t500) = some r := H
             have A88 := Aside0.mk A880
             clear A880
             obtain rfl := Option.some.inj H
             go_wp2_with (first | ((with_reducible refine qAw (b := .append) (xs := #[.const (.slice none 0 0), .tmp 69]) rfl ?_); at_builtin; refine Kd.N_append_rows k25 (w0 := w) w.heap.size rfl (.const (.slice none 0 0)) (.tmp 69) 22 25 (.agg #[(.int .i64 0), (.bool false), (.int .i64 0), (.string ⟨#[]⟩), (.slice none 0 0), (.slice none 0 0)]) 88 rfl Tryd.underlying22 info25 rfl (by decide) (by omega) (.slice none 0 0) ([] : List (S25)) l0 _ _ _ (fun k_ => (P0_ k_ ∨ w.heap.size ≤ k_) ∧ some k_ ≠ (u5 : Value).ownBlock) (fun k_ => ((fun k_ => (P0_ k_ ∨ w.heap.size ≤ k_) ∧ some k_ ≠ (u5 : Value).ownBlock)) k_ ∧ some k_ ≠ (.slice none 0 0 : Value).ownBlock) rfl rfl ?aO ?aR (fun _ hk => hk) ?aF ?aB ?aS ?aL ?_; (case aR => exact (by skip; exact Kd.V_F (Kd.V_mono (ok' := (fun k_ => ((fun k_ => (P0_ k_ ∨ w.heap.size ≤ k_) ∧ some k_ ≠ (u5 : Value).ownBlock)) k_ ∧ some k_ ≠ (.slice none 0 0 : Value).ownBlock)) (HO_0.out) (fun k_ hk => ⟨⟨hk.1, hk.2⟩, (by simp [Value.ownBlock])⟩)))); (case aB => exact (by repeat (first | (with_reducible first | exact HB.out | apply qAd | apply qAb | apply qAe) | exact HB.out))); (case aF => exact (fun k_ hk => ⟨(.inr (Nat.le_trans (qAj (by repeat (first | (with_reducible first | exact HB.out | apply qAd | apply qAb | apply qAe) | exact HB.out))) hk)), Kd.fresh' (Kd.R_lt (by (with_reducible repeat (first | apply Kd.R_alloc | apply Kd.R_drewN | apply Kd.R_drew)); exact HO_5.out)) k_ hk⟩)); (case aO => exact ((Kd.N_nil _ _ _ _ (fun k_ => (P0_ k_ ∨ w.heap.size ≤ k_) ∧ some k_ ≠ (u5 : Value).ownBlock)))); (case aS => exact (qAj (by repeat (first | (with_reducible first | exact HB.out | apply qAd | apply qAb | apply qAe) | exact HB.out)))); (case aL => have := LMc49.out; omega); intro v474 w89 ho hb hg hat; rw [← Ny473.out] at ho; have n0_ := Aside0.mk (Kd.V_afterv (Kd.V_apart_nil (by (with_reducible repeat (first | apply Kd.V_alloc | apply Kd.V_drewN | apply Kd.V_drew)); exact HO_0.out)) hg hat); have n1_ := Aside0.mk (Kd.R_grown (by (with_reducible repeat (first | apply Kd.R_alloc | apply Kd.R_drewN | apply Kd.R_drew)); exact HO_5.out) hg (fun _ _ => by simp [Value.ownBlock])); have n2_ := Aside0.mk (hb); have n3_ := Aside0.mk (ho); clear HO_0; clear HO_5; clear HB; have HO_0 := n0_; have HO_5 := n1_; have HB := n2_; have HO475 := n3_; clear n0_ n1_ n2_ n3_; clear ho hb hg hat; obtain ⟨Ao90, co90, eo90⟩ := Kd.N_slice HO475.out; subst eo90) | ((with_reducible refine qA0 (N := 11) rfl ?_); refine qAz ?hg (N := 11) ?hd (cs := #[.int .i64 0, .bool false, .int .i64 0, .string (⟨#[]⟩ : ByteArray), .slice none 0 0, .slice none 0 0]) (t := 25) ?hr ?_; (case hd => rfl); (case hg => rfl); (case hr => first | (go_simp; done) | (go_simp; rfl)); intro gb476 hg w91 hbox hb; have n0_ := Aside0.mk (Kd.V_below (Kd.V_elderB (by (with_reducible repeat (first | apply Kd.V_alloc | apply Kd.V_drewN | apply Kd.V_drew)); exact HO_0.out) gb476 (Nat.le_of_eq hg.symm)) hb); have n1_ := Aside0.mk (Kd.R_below (by (with_reducible repeat (first | apply Kd.R_alloc | apply Kd.R_drewN | apply Kd.R_drew)); exact HO_5.out) hb); have n2_ := Aside0.mk (Kd.N_below (Kd.N_elderB (by (with_reducible repeat (first | apply Kd.N_alloc | apply Kd.N_drewN | apply Kd.N_drew)); exact HO475.out) gb476 (Nat.le_of_eq hg.symm)) hb); have n3_ := Aside0.mk (qAi (by repeat (first | (with_reducible first | exact HB.out | apply qAd | apply qAb | apply qAe) | exact HB.out)) hb); have n4_ := Aside0.mk (hbox); have n5_ := Aside0.mk ((by rw [hg]; exact (qAj (by repeat (first | (with_reducible first | exact HB.out | apply qAd | apply qAb | apply qAe) | exact HB.out))) : w.heap.size ≤ gb476)); have n6_ := Aside0.mk ((by rw [hg]; exact (qAj (by repeat (first | (with_reducible first | exact HB.out | apply qAd | apply qAb | apply qAe) | exact HB.out))) : w.heap.size ≤ gb476)); clear HO_0; clear HO_5; clear HO475; clear HB; have HO_0 := n0_; have HO_5 := n1_; have HO475 := n2_; have HB := n3_; have BK476 := n4_; have GW476 := n5_; have GE476 := n6_; clear n0_ n1_ n2_ n3_ n4_ n5_ n6_; clear hb hbox hg; have hcz92_0 : w91.cell? ⟨gb476, 0, none⟩ = some (.int .i64 0) := (qAc BK476.out 0).trans rfl; have hcz92_1 : w91.cell? ⟨gb476, 1, none⟩ = some (.bool false) := (qAc BK476.out 1).trans rfl; have hcz92_2 : w91.cell? ⟨gb476, 2, none⟩ = some (.int .i64 0) := (qAc BK476.out 2).trans rfl; have hcz92_3 : w91.cell? ⟨gb476, 3, none⟩ = some (.string (⟨#[]⟩ : ByteArray)) := (qAc BK476.out 3).trans rfl; have hcz92_4 : w91.cell? ⟨gb476, 4, none⟩ = some (.slice none 0 0) := (qAc BK476.out 4).trans rfl; have hcz92_5 : w91.cell? ⟨gb476, 5, none⟩ = some (.slice none 0 0) := (qAc BK476.out 5).trans rfl; have hfz92_0 := qAa BK476.out 0; have hfz92_1 := qAa BK476.out 1; have hfz92_2 := qAa BK476.out 2; have hfz92_3 := qAa BK476.out 3; have hfz92_4 := qAa BK476.out 4; have hfz92_5 := qAa BK476.out 5) | ((with_reducible refine qAw (b := .append) (xs := #[.const (.slice none 0 0), .tmp 73]) rfl ?_); at_builtin; refine Kd.N_append_rows k25 (w0 := w) w.heap.size rfl (.const (.slice none 0 0)) (.tmp 73) 22 25 (.agg #[(.int .i64 0), (.bool false), (.int .i64 0), (.string ⟨#[]⟩), (.slice none 0 0), (.slice none 0 0)]) 88 rfl Tryd.underlying22 info25 rfl (by decide) (by omega) (.slice none 0 0) ([] : List (S25)) l0 _ _ _ (fun k_ => (P0_ k_ ∨ w.heap.size ≤ k_) ∧ some k_ ≠ (u5 : Value).ownBlock ∧ some k_ ≠ (.slice Ao90 y473.length co90 : Value).ownBlock ∧ k_ ≠ gb476) (fun k_ => ((fun k_ => (P0_ k_ ∨ w.heap.size ≤ k_) ∧ some k_ ≠ (u5 : Value).ownBlock ∧ some k_ ≠ (.slice Ao90 y473.length co90 : Value).ownBlock ∧ k_ ≠ gb476)) k_ ∧ some k_ ≠ (.slice none 0 0 : Value).ownBlock) rfl rfl ?aO ?aR (fun _ hk => hk) ?aF ?aB ?aS ?aL ?_; (case aR => exact (by skip; exact Kd.V_F (Kd.V_mono (ok' := (fun k_ => ((fun k_ => (P0_ k_ ∨ w.heap.size ≤ k_) ∧ some k_ ≠ (u5 : Value).ownBlock ∧ some k_ ≠ (.slice Ao90 y473.length co90 : Value).ownBlock ∧ k_ ≠ gb476)) k_ ∧ some k_ ≠ (.slice none 0 0 : Value).ownBlock)) ((Kd.V_far (p := ⟨gb476, 5, none⟩) (Kd.V_far (p := ⟨gb476, 4, none⟩) (Kd.V_far (p := ⟨gb476, 3, none⟩) (Kd.V_far (p := ⟨gb476, 2, none⟩) (Kd.V_far (p := ⟨gb476, 1, none⟩) (Kd.V_far (p := ⟨gb476, 0, none⟩) (Kd.V_mono HO_0.out (fun k_ hk => (⟨hk, hk.2⟩ : _ ∧ k_ ≠ gb476))) (fun _ hk => hk.2) (.int .i64 4)) (fun _ hk => hk.2) (.bool false)) (fun _ hk => hk.2) (.int .i64 0)) (fun _ hk => hk.2) (.string (⟨#[]⟩ : ByteArray))) (fun _ hk => hk.2) (.slice Ao90 y473.length co90)) (fun _ hk => hk.2) (.slice none 0 0))) (fun k_ hk => ⟨⟨hk.1.1.1.1, ⟨hk.1.1.1.2, ⟨hk.1.1.2, hk.1.2⟩⟩⟩, (by simp [Value.ownBlock])⟩)))); (case aB => exact (by repeat (first | (with_reducible first | exact HB.out | apply qAd | apply qAb | apply qAe | refine qAg ?_ GE476.out) | exact HB.out))); (case aF => exact (fun k_ hk => ⟨(.inr (Nat.le_trans (qAj (by repeat (first | (with_reducible first | exact HB.out | apply qAd | apply qAb | apply qAe | refine qAg ?_ GE476.out) | exact HB.out))) hk)), Kd.fresh' (Kd.R_lt (by (with_reducible repeat (first | apply Kd.R_alloc | apply Kd.R_drewN | apply Kd.R_drew)); exact (Kd.R_mono (Kd.R_far (p := ⟨gb476, 5, none⟩) (Kd.R_far (p := ⟨gb476, 4, none⟩) (Kd.R_far (p := ⟨gb476, 3, none⟩) (Kd.R_far (p := ⟨gb476, 2, none⟩) (Kd.R_far (p := ⟨gb476, 1, none⟩) (Kd.R_far (p := ⟨gb476, 0, none⟩) (Kd.R_types HO_5.out BK476.out (by decide)) (fun _ hk => hk.2) (.int .i64 4)) (fun _ hk => hk.2) (.bool false)) (fun _ hk => hk.2) (.int .i64 0)) (fun _ hk => hk.2) (.string (⟨#[]⟩ : ByteArray))) (fun _ hk => hk.2) (.slice Ao90 y473.length co90)) (fun _ hk => hk.2) (.slice none 0 0)) (fun _ h_ => h_.1)))) k_ hk, Kd.fresh' (Kd.N_lt (by (with_reducible repeat (first | apply Kd.N_alloc | apply Kd.N_drewN | apply Kd.N_drew)); exact (Kd.N_mono (Kd.N_far (p := ⟨gb476, 5, none⟩) (Kd.N_far (p := ⟨gb476, 4, none⟩) (Kd.N_far (p := ⟨gb476, 3, none⟩) (Kd.N_far (p := ⟨gb476, 2, none⟩) (Kd.N_far (p := ⟨gb476, 1, none⟩) (Kd.N_far (p := ⟨gb476, 0, none⟩) (Kd.N_mono HO475.out (fun k_ hk => (⟨hk, hk.2⟩ : _ ∧ k_ ≠ gb476))) (fun _ hk => hk.2) (.int .i64 4)) (fun _ hk => hk.2) (.bool false)) (fun _ hk => hk.2) (.int .i64 0)) (fun _ hk => hk.2) (.string (⟨#[]⟩ : ByteArray))) (fun _ hk => hk.2) (.slice Ao90 y473.length co90)) (fun _ hk => hk.2) (.slice none 0 0)) (fun _ h_ => h_.1)))) k_ hk, Kd.freshB (g := gb476) (o := .cells #[.int .i64 4, .bool false, .int .i64 0, .string (⟨#[]⟩ : ByteArray), .slice Ao90 y473.length co90, .slice none 0 0] 25 (0, 0)) (by (with_reducible repeat (first | refine qAf ?_ _ | refine qAh ?_ | refine blk_alloc ?_ _)); refine qAo (cs := #[.int .i64 4, .bool false, .int .i64 0, .string (⟨#[]⟩ : ByteArray), .slice Ao90 y473.length co90, .slice none 0 0]) ?_ 5 _ rfl; (with_reducible repeat (first | refine qAf ?_ _ | refine qAh ?_ | refine blk_alloc ?_ _)); refine qAo (cs := #[.int .i64 4, .bool false, .int .i64 0, .string (⟨#[]⟩ : ByteArray), .slice none 0 0, .slice none 0 0]) ?_ 4 _ rfl; (with_reducible repeat (first | refine qAf ?_ _ | refine qAh ?_ | refine blk_alloc ?_ _)); refine qAo (cs := #[.int .i64 4, .bool false, .int .i64 0, .string (⟨#[]⟩ : ByteArray), .slice none 0 0, .slice none 0 0]) ?_ 3 _ rfl; (with_reducible repeat (first | refine qAf ?_ _ | refine qAh ?_ | refine blk_alloc ?_ _)); refine qAo (cs := #[.int .i64 4, .bool false, .int .i64 0, .string (⟨#[]⟩ : ByteArray), .slice none 0 0, .slice none 0 0]) ?_ 2 _ rfl; (with_reducible repeat (first | refine qAf ?_ _ | refine qAh ?_ | refine blk_alloc ?_ _)); refine qAo (cs := #[.int .i64 4, .bool false, .int .i64 0, .string (⟨#[]⟩ : ByteArray), .slice none 0 0, .slice none 0 0]) ?_ 1 _ rfl; (with_reducible repeat (first | refine qAf ?_ _ | refine qAh ?_ | refine blk_alloc ?_ _)); refine qAo (cs := #[.int .i64 0, .bool false, .int .i64 0, .string (⟨#[]⟩ : ByteArray), .slice none 0 0, .slice none 0 0]) ?_ 0 _ rfl; (with_reducible repeat (first | refine qAf ?_ _ | refine qAh ?_ | refine blk_alloc ?_ _)); exact BK476.out) k_ hk⟩)); (case aO => exact ((Kd.N_nil _ _ _ _ (fun k_ => (P0_ k_ ∨ w.heap.size ≤ k_) ∧ some k_ ≠ (u5 : Value).ownBlock ∧ some k_ ≠ (.slice Ao90 y473.length co90 : Value).ownBlock ∧ k_ ≠ gb476)))); (case aS => exact (qAj (by repeat (first | (with_reducible first | exact HB.out | apply qAd | apply qAb | apply qAe | refine qAg ?_ GE476.out) | exact HB.out)))); (case aL => have := LMc49.out; omega); intro v478 w93 ho hb hg hat; rw [← Ny477.out] at ho; have n0_ := Aside0.mk (Kd.V_afterv (Kd.V_apart_nil (by (with_reducible repeat (first | apply Kd.V_alloc | apply Kd.V_drewN | apply Kd.V_drew)); exact (Kd.V_mono (Kd.V_far (p := ⟨gb476, 5, none⟩) (Kd.V_far (p := ⟨gb476, 4, none⟩) (Kd.V_far (p := ⟨gb476, 3, none⟩) (Kd.V_far (p := ⟨gb476, 2, none⟩) (Kd.V_far (p := ⟨gb476, 1, none⟩) (Kd.V_far (p := ⟨gb476, 0, none⟩) (Kd.V_mono HO_0.out (fun k_ hk => (⟨hk, hk.2⟩ : _ ∧ k_ ≠ gb476))) (fun _ hk => hk.2) (.int .i64 4)) (fun _ hk => hk.2) (.bool false)) (fun _ hk => hk.2) (.int .i64 0)) (fun _ hk => hk.2) (.string (⟨#[]⟩ : ByteArray))) (fun _ hk => hk.2) (.slice Ao90 y473.length co90)) (fun _ hk => hk.2) (.slice none 0 0)) (fun _ h_ => h_.1)))) hg hat); have n1_ := Aside0.mk (Kd.R_grown (by (with_reducible repeat (first | apply Kd.R_alloc | apply Kd.R_drewN | apply Kd.R_drew)); exact (Kd.R_mono (Kd.R_far (p := ⟨gb476, 5, none⟩) (Kd.R_far (p := ⟨gb476, 4, none⟩) (Kd.R_far (p := ⟨gb476, 3, none⟩) (Kd.R_far (p := ⟨gb476, 2, none⟩) (Kd.R_far (p := ⟨gb476, 1, none⟩) (Kd.R_far (p := ⟨gb476, 0, none⟩) (Kd.R_types HO_5.out BK476.out (by decide)) (fun _ hk => hk.2) (.int .i64 4)) (fun _ hk => hk.2) (.bool false)) (fun _ hk => hk.2) (.int .i64 0)) (fun _ hk => hk.2) (.string (⟨#[]⟩ : ByteArray))) (fun _ hk => hk.2) (.slice Ao90 y473.length co90)) (fun _ hk => hk.2) (.slice none 0 0)) (fun _ h_ => h_.1))) hg (fun _ _ => by simp [Value.ownBlock])); have n2_ := Aside0.mk (Kd.N_afterv (Kd.N_apart_nil (by (with_reducible repeat (first | apply Kd.N_alloc | apply Kd.N_drewN | apply Kd.N_drew)); exact (Kd.N_mono (Kd.N_far (p := ⟨gb476, 5, none⟩) (Kd.N_far (p := ⟨gb476, 4, none⟩) (Kd.N_far (p := ⟨gb476, 3, none⟩) (Kd.N_far (p := ⟨gb476, 2, none⟩) (Kd.N_far (p := ⟨gb476, 1, none⟩) (Kd.N_far (p := ⟨gb476, 0, none⟩) (Kd.N_mono HO475.out (fun k_ hk => (⟨hk, hk.2⟩ : _ ∧ k_ ≠ gb476))) (fun _ hk => hk.2) (.int .i64 4)) (fun _ hk => hk.2) (.bool false)) (fun _ hk => hk.2) (.int .i64 0)) (fun _ hk => hk.2) (.string (⟨#[]⟩ : ByteArray))) (fun _ hk => hk.2) (.slice Ao90 y473.length co90)) (fun _ hk => hk.2) (.slice none 0 0)) (fun _ h_ => h_.1)))) hg hat); have n3_ := Aside0.mk (qBt (g := gb476) (o := .cells #[.int .i64 4, .bool false, .int .i64 0, .string (⟨#[]⟩ : ByteArray), .slice Ao90 y473.length co90, .slice none 0 0] 25 (0, 0)) (by (with_reducible repeat (first | refine qAf ?_ _ | refine qAh ?_ | refine blk_alloc ?_ _)); refine qAo (cs := #[.int .i64 4, .bool false, .int .i64 0, .string (⟨#[]⟩ : ByteArray), .slice Ao90 y473.length co90, .slice none 0 0]) ?_ 5 _ rfl; (with_reducible repeat (first | refine qAf ?_ _ | refine qAh ?_ | refine blk_alloc ?_ _)); refine qAo (cs := #[.int .i64 4, .bool false, .int .i64 0, .string (⟨#[]⟩ : ByteArray), .slice none 0 0, .slice none 0 0]) ?_ 4 _ rfl; (with_reducible repeat (first | refine qAf ?_ _ | refine qAh ?_ | refine blk_alloc ?_ _)); refine qAo (cs := #[.int .i64 4, .bool false, .int .i64 0, .string (⟨#[]⟩ : ByteArray), .slice none 0 0, .slice none 0 0]) ?_ 3 _ rfl; (with_reducible repeat (first | refine qAf ?_ _ | refine qAh ?_ | refine blk_alloc ?_ _)); refine qAo (cs := #[.int .i64 4, .bool false, .int .i64 0, .string (⟨#[]⟩ : ByteArray), .slice none 0 0, .slice none 0 0]) ?_ 2 _ rfl; (with_reducible repeat (first | refine qAf ?_ _ | refine qAh ?_ | refine blk_alloc ?_ _)); refine qAo (cs := #[.int .i64 4, .bool false, .int .i64 0, .string (⟨#[]⟩ : ByteArray), .slice none 0 0, .slice none 0 0]) ?_ 1 _ rfl; (with_reducible repeat (first | refine qAf ?_ _ | refine qAh ?_ | refine blk_alloc ?_ _)); refine qAo (cs := #[.int .i64 0, .bool false, .int .i64 0, .string (⟨#[]⟩ : ByteArray), .slice none 0 0, .slice none 0 0]) ?_ 0 _ rfl; (with_reducible repeat (first | refine qAf ?_ _ | refine qAh ?_ | refine blk_alloc ?_ _)); exact BK476.out) hg (by simp [Value.ownBlock])); have n4_ := Aside0.mk (hb); have n5_ := Aside0.mk (ho); clear HO_0; clear HO_5; clear HO475; clear BK476; clear HB; have HO_0 := n0_; have HO_5 := n1_; have HO475 := n2_; have BK476 := n3_; have HB := n4_; have HO479 := n5_; clear n0_ n1_ n2_ n3_ n4_ n5_; clear ho hb hg hat; obtain ⟨Ao94, co94, eo94⟩ := Kd.R_slice HO_5.out; subst eo94; obtain ⟨Ao95, co95, eo95⟩ := Kd.N_slice HO479.out; subst eo95) | ((with_reducible refine qA0 (N := 12) rfl ?_); refine qAz ?hg (N := 12) ?hd (cs := #[.int .i64 0, .bool false, .int .i64 0, .string (⟨#[]⟩ : ByteArray), .slice none 0 0, .slice none 0 0]) (t := 25) ?hr ?_; (case hd => rfl); (case hg => rfl); (case hr => first | (go_simp; done) | (go_simp; rfl)); intro gb480 hg w96 hbox hb; have n0_ := Aside0.mk (Kd.V_below (Kd.V_elderB (by (with_reducible repeat (first | apply Kd.V_alloc | apply Kd.V_drewN | apply Kd.V_drew)); exact HO_0.out) gb480 (Nat.le_of_eq hg.symm)) hb); have n1_ := Aside0.mk (Kd.R_below (by (with_reducible repeat (first | apply Kd.R_alloc | apply Kd.R_drewN | apply Kd.R_drew)); exact HO_5.out) hb); have n2_ := Aside0.mk (Kd.N_below (Kd.N_elderB (by (with_reducible repeat (first | apply Kd.N_alloc | apply Kd.N_drewN | apply Kd.N_drew)); exact HO475.out) gb480 (Nat.le_of_eq hg.symm)) hb); have n3_ := Aside0.mk (Kd.N_below (Kd.N_elderB (by (with_reducible repeat (first | apply Kd.N_alloc | apply Kd.N_drewN | apply Kd.N_drew)); exact HO479.out) gb480 (Nat.le_of_eq hg.symm)) hb); have n4_ := Aside0.mk (qAk (g := gb476) (o := .cells #[.int .i64 4, .bool false, .int .i64 0, .string (⟨#[]⟩ : ByteArray), .slice Ao90 y473.length co90, .slice none 0 0] 25 (0, 0)) (by (with_reducible repeat (first | refine qAf ?_ _ | refine qAh ?_ | refine blk_alloc ?_ _)); exact BK476.out) hb); have n5_ := Aside0.mk (qAi (by repeat (first | (with_reducible first | exact HB.out | apply qAd | apply qAb | apply qAe | refine qAg ?_ GE476.out) | exact HB.out)) hb); have n6_ := Aside0.mk (hbox); have n7_ := Aside0.mk ((by rw [hg]; exact (qAj (by repeat (first | (with_reducible first | exact HB.out | apply qAd | apply qAb | apply qAe | refine qAg ?_ GE476.out) | exact HB.out))) : w.heap.size ≤ gb480)); have n8_ := Aside0.mk ((by rw [hg]; exact (qAj (by repeat (first | (with_reducible first | exact HB.out | apply qAd | apply qAb | apply qAe | refine qAg ?_ GE476.out) | exact HB.out))) : w.heap.size ≤ gb480)); have n9_ := Aside0.mk ((by rw [hg]; exact Nat.ne_of_lt (blk_lt (g := gb476) (o := .cells #[.int .i64 4, .bool false, .int .i64 0, .string (⟨#[]⟩ : ByteArray), .slice Ao90 y473.length co90, .slice none 0 0] 25 (0, 0)) (by (with_reducible repeat (first | refine qAf ?_ _ | refine qAh ?_ | refine blk_alloc ?_ _)); exact BK476.out)) : gb476 ≠ gb480)); have n10_ := Aside0.mk ((by rw [hg]; exact Nat.ne_of_gt (blk_lt (g := gb476) (o := .cells #[.int .i64 4, .bool false, .int .i64 0, .string (⟨#[]⟩ : ByteArray), .slice Ao90 y473.length co90, .slice none 0 0] 25 (0, 0)) (by (with_reducible repeat (first | refine qAf ?_ _ | refine qAh ?_ | refine blk_alloc ?_ _)); exact BK476.out)) : gb480 ≠ gb476)); clear HO_0; clear HO_5; clear HO475; clear HO479; clear BK476; clear HB; have HO_0 := n0_; have HO_5 := n1_; have HO475 := n2_; have HO479 := n3_; have BK476 := n4_; have HB := n5_; have BK480 := n6_; have GW480 := n7_; have GE480 := n8_; have NB476_480 := n9_; have NB480_476 := n10_; clear n0_ n1_ n2_ n3_ n4_ n5_ n6_ n7_ n8_ n9_ n10_; clear hb hbox hg; have hnb97 := NB480_476.out; have hnc97 := NB476_480.out; have hcz98_0 : w96.cell? ⟨gb480, 0, none⟩ = some (.int .i64 0) := (qAc BK480.out 0).trans rfl; have hcz98_1 : w96.cell? ⟨gb480, 1, none⟩ = some (.bool false) := (qAc BK480.out 1).trans rfl; have hcz98_2 : w96.cell? ⟨gb480, 2, none⟩ = some (.int .i64 0) := (qAc BK480.out 2).trans rfl; have hcz98_3 : w96.cell? ⟨gb480, 3, none⟩ = some (.string (⟨#[]⟩ : ByteArray)) := (qAc BK480.out 3).trans rfl; have hcz98_4 : w96.cell? ⟨gb480, 4, none⟩ = some (.slice none 0 0) := (qAc BK480.out 4).trans rfl; have hcz98_5 : w96.cell? ⟨gb480, 5, none⟩ = some (.slice none 0 0) := (qAc BK480.out 5).trans rfl; have hfz98_0 := qAa BK480.out 0; have hfz98_1 := qAa BK480.out 1; have hfz98_2 := qAa BK480.out 2; have hfz98_3 := qAa BK480.out 3; have hfz98_4 := qAa BK480.out 4; have hfz98_5 := qAa BK480.out 5; have hcz99_0 : w96.cell? ⟨gb476, 0, none⟩ = some (.int .i64 4) := (qAc BK476.out 0).trans rfl; have hcz99_1 : w96.cell? ⟨gb476, 1, none⟩ = some (.bool false) := (qAc BK476.out 1).trans rfl; have hcz99_2 : w96.cell? ⟨gb476, 2, none⟩ = some (.int .i64 0) := (qAc BK476.out 2).trans rfl; have hcz99_3 : w96.cell? ⟨gb476, 3, none⟩ = some (.string (⟨#[]⟩ : ByteArray)) := (qAc BK476.out 3).trans rfl; have hcz99_4 : w96.cell? ⟨gb476, 4, none⟩ = some (.slice Ao90 y473.length co90) := (qAc BK476.out 4).trans rfl; have hcz99_5 : w96.cell? ⟨gb476, 5, none⟩ = some (.slice none 0 0) := (qAc BK476.out 5).trans rfl; have hfz99_0 := qAa BK476.out 0; have hfz99_1 := qAa BK476.out 1; have hfz99_2 := qAa BK476.out 2; have hfz99_3 := qAa BK476.out 3; have hfz99_4 := qAa BK476.out 4; have hfz99_5 := qAa BK476.out 5) | ((with_reducible refine qAn (f := 16) rfl ?_); refine goesL_ (some 78) rfl rfl Tryd.func16 (by kernel_rfl) rfl #[.agg #[.int .i64 4, .bool false, .int .i64 0, .string (⟨#[]⟩ : ByteArray), .slice Ao90 y473.length co90, .slice none 0 0]] rfl (by (try simp only [List.map_toArray, List.map_cons, List.map_nil]); first | done | rfl | (simp only [List.length_drop, List.length_take]; rfl)) ?_; (refine (value_Lay.calls k2 4 false 0 (⟨#[]⟩ : ByteArray) _ _ y473 _ _ ([] : List ByteArray) t481 t482 _ ?side1 ?side2 ?side3 ?side4 ?side5 A50.out).mono ?_); (case side1 => exact ⟨Tabs.below hT.out (by repeat (first | (with_reducible first | exact HB.out | apply qAd | apply qAb | apply qAe | refine qAg ?_ GE476.out | refine qAg ?_ GE480.out) | exact HB.out))⟩); (case side2 => refine (Kd.N_reads' (e := 25) (base := w.heap.size) (ok := fun k_ => (((((P0_ k_ ∨ w.heap.size ≤ k_) ∧ some k_ ≠ (.slice Ao94 x5_2.length co94 : Value).ownBlock) ∧ k_ ≠ gb476) ∧ some k_ ≠ (.slice Ao95 y477.length co95 : Value).ownBlock) ∧ k_ ≠ gb480)) (n := y473.length) (c := co90) ?_).2.2; exact (by (with_reducible repeat (first | apply Kd.N_alloc | apply Kd.N_drewN | apply Kd.N_drew)); exact (Kd.N_mono (Kd.N_far (p := ⟨gb480, 5, none⟩) (Kd.N_far (p := ⟨gb480, 4, none⟩) (Kd.N_far (p := ⟨gb480, 3, none⟩) (Kd.N_far (p := ⟨gb480, 2, none⟩) (Kd.N_far (p := ⟨gb480, 1, none⟩) (Kd.N_far (p := ⟨gb480, 0, none⟩) (Kd.N_mono HO475.out (fun k_ hk => (⟨hk, hk.2⟩ : _ ∧ k_ ≠ gb480))) (fun _ hk => hk.2) (.int .i64 5)) (fun _ hk => hk.2) (.bool false)) (fun _ hk => hk.2) (.int .i64 0)) (fun _ hk => hk.2) (.string (⟨#[]⟩ : ByteArray))) (fun _ hk => hk.2) (.slice Ao95 y477.length co95)) (fun _ hk => hk.2) (.slice Ao94 x5_2.length co94)) (fun _ h_ => h_.1)))); (case side3 => exact (Kd.N_reads' HO475.out).2.1); (case side4 => exact Kd.C_nil _ _); (case side5 => exact Nat.le_refl _); rintro e w100 ⟨rfl, hb⟩; refine ⟨_, rfl, ?_⟩; have n0_ := Aside0.mk (Kd.V_below (by (with_reducible repeat (first | apply Kd.V_alloc | apply Kd.V_drewN | apply Kd.V_drew)); exact (Kd.V_mono (Kd.V_far (p := ⟨gb480, 5, none⟩) (Kd.V_far (p := ⟨gb480, 4, none⟩) (Kd.V_far (p := ⟨gb480, 3, none⟩) (Kd.V_far (p := ⟨gb480, 2, none⟩) (Kd.V_far (p := ⟨gb480, 1, none⟩) (Kd.V_far (p := ⟨gb480, 0, none⟩) (Kd.V_mono HO_0.out (fun k_ hk => (⟨hk, hk.2⟩ : _ ∧ k_ ≠ gb480))) (fun _ hk => hk.2) (.int .i64 5)) (fun _ hk => hk.2) (.bool false)) (fun _ hk => hk.2) (.int .i64 0)) (fun _ hk => hk.2) (.string (⟨#[]⟩ : ByteArray))) (fun _ hk => hk.2) (.slice Ao95 y477.length co95)) (fun _ hk => hk.2) (.slice Ao94 x5_2.length co94)) (fun _ h_ => h_.1))) hb); have n1_ := Aside0.mk (Kd.R_below (by (with_reducible repeat (first | apply Kd.R_alloc | apply Kd.R_drewN | apply Kd.R_drew)); exact (Kd.R_mono (Kd.R_far (p := ⟨gb480, 5, none⟩) (Kd.R_far (p := ⟨gb480, 4, none⟩) (Kd.R_far (p := ⟨gb480, 3, none⟩) (Kd.R_far (p := ⟨gb480, 2, none⟩) (Kd.R_far (p := ⟨gb480, 1, none⟩) (Kd.R_far (p := ⟨gb480, 0, none⟩) (Kd.R_types HO_5.out BK480.out (by decide)) (fun _ hk => hk.2) (.int .i64 5)) (fun _ hk => hk.2) (.bool false)) (fun _ hk => hk.2) (.int .i64 0)) (fun _ hk => hk.2) (.string (⟨#[]⟩ : ByteArray))) (fun _ hk => hk.2) (.slice Ao95 y477.length co95)) (fun _ hk => hk.2) (.slice Ao94 x5_2.length co94)) (fun _ h_ => h_.1))) hb); have n2_ := Aside0.mk (Kd.N_below (by (with_reducible repeat (first | apply Kd.N_alloc | apply Kd.N_drewN | apply Kd.N_drew)); exact (Kd.N_mono (Kd.N_far (p := ⟨gb480, 5, none⟩) (Kd.N_far (p := ⟨gb480, 4, none⟩) (Kd.N_far (p := ⟨gb480, 3, none⟩) (Kd.N_far (p := ⟨gb480, 2, none⟩) (Kd.N_far (p := ⟨gb480, 1, none⟩) (Kd.N_far (p := ⟨gb480, 0, none⟩) (Kd.N_mono HO475.out (fun k_ hk => (⟨hk, hk.2⟩ : _ ∧ k_ ≠ gb480))) (fun _ hk => hk.2) (.int .i64 5)) (fun _ hk => hk.2) (.bool false)) (fun _ hk => hk.2) (.int .i64 0)) (fun _ hk => hk.2) (.string (⟨#[]⟩ : ByteArray))) (fun _ hk => hk.2) (.slice Ao95 y477.length co95)) (fun _ hk => hk.2) (.slice Ao94 x5_2.length co94)) (fun _ h_ => h_.1))) hb); have n3_ := Aside0.mk (Kd.N_below (by (with_reducible repeat (first | apply Kd.N_alloc | apply Kd.N_drewN | apply Kd.N_drew)); exact (Kd.N_mono (Kd.N_far (p := ⟨gb480, 5, none⟩) (Kd.N_far (p := ⟨gb480, 4, none⟩) (Kd.N_far (p := ⟨gb480, 3, none⟩) (Kd.N_far (p := ⟨gb480, 2, none⟩) (Kd.N_far (p := ⟨gb480, 1, none⟩) (Kd.N_far (p := ⟨gb480, 0, none⟩) (Kd.N_mono HO479.out (fun k_ hk => (⟨hk, hk.2⟩ : _ ∧ k_ ≠ gb480))) (fun _ hk => hk.2) (.int .i64 5)) (fun _ hk => hk.2) (.bool false)) (fun _ hk => hk.2) (.int .i64 0)) (fun _ hk => hk.2) (.string (⟨#[]⟩ : ByteArray))) (fun _ hk => hk.2) (.slice Ao95 y477.length co95)) (fun _ hk => hk.2) (.slice Ao94 x5_2.length co94)) (fun _ h_ => h_.1))) hb); have n4_ := Aside0.mk (qAk (g := gb476) (o := .cells #[.int .i64 4, .bool false, .int .i64 0, .string (⟨#[]⟩ : ByteArray), .slice Ao90 y473.length co90, .slice none 0 0] 25 (0, 0)) (by (with_reducible repeat (first | refine qAf ?_ _ | refine qAh ?_ | refine blk_alloc ?_ _)); refine qAv ?_ NB476_480.out _; (with_reducible repeat (first | refine qAf ?_ _ | refine qAh ?_ | refine blk_alloc ?_ _)); refine qAv ?_ NB476_480.out _; (with_reducible repeat (first | refine qAf ?_ _ | refine qAh ?_ | refine blk_alloc ?_ _)); refine qAv ?_ NB476_480.out _; (with_reducible repeat (first | refine qAf ?_ _ | refine qAh ?_ | refine blk_alloc ?_ _)); refine qAv ?_ NB476_480.out _; (with_reducible repeat (first | refine qAf ?_ _ | refine qAh ?_ | refine blk_alloc ?_ _)); refine qAv ?_ NB476_480.out _; (with_reducible repeat (first | refine qAf ?_ _ | refine qAh ?_ | refine blk_alloc ?_ _)); refine qAv ?_ NB476_480.out _; (with_reducible repeat (first | refine qAf ?_ _ | refine qAh ?_ | refine blk_alloc ?_ _)); exact BK476.out) hb); have n5_ := Aside0.mk (qAk (g := gb480) (o := .cells #[.int .i64 5, .bool false, .int .i64 0, .string (⟨#[]⟩ : ByteArray), .slice Ao95 y477.length co95, .slice Ao94 x5_2.length co94] 25 (0, 0)) (by (with_reducible repeat (first | refine qAf ?_ _ | refine qAh ?_ | refine blk_alloc ?_ _)); refine qAo (cs := #[.int .i64 5, .bool false, .int .i64 0, .string (⟨#[]⟩ : ByteArray), .slice Ao95 y477.length co95, .slice none 0 0]) ?_ 5 _ rfl; (with_reducible repeat (first | refine qAf ?_ _ | refine qAh ?_ | refine blk_alloc ?_ _)); refine qAo (cs := #[.int .i64 5, .bool false, .int .i64 0, .string (⟨#[]⟩ : ByteArray), .slice none 0 0, .slice none 0 0]) ?_ 4 _ rfl; (with_reducible repeat (first | refine qAf ?_ _ | refine qAh ?_ | refine blk_alloc ?_ _)); refine qAo (cs := #[.int .i64 5, .bool false, .int .i64 0, .string (⟨#[]⟩ : ByteArray), .slice none 0 0, .slice none 0 0]) ?_ 3 _ rfl; (with_reducible repeat (first | refine qAf ?_ _ | refine qAh ?_ | refine blk_alloc ?_ _)); refine qAo (cs := #[.int .i64 5, .bool false, .int .i64 0, .string (⟨#[]⟩ : ByteArray), .slice none 0 0, .slice none 0 0]) ?_ 2 _ rfl; (with_reducible repeat (first | refine qAf ?_ _ | refine qAh ?_ | refine blk_alloc ?_ _)); refine qAo (cs := #[.int .i64 5, .bool false, .int .i64 0, .string (⟨#[]⟩ : ByteArray), .slice none 0 0, .slice none 0 0]) ?_ 1 _ rfl; (with_reducible repeat (first | refine qAf ?_ _ | refine qAh ?_ | refine blk_alloc ?_ _)); refine qAo (cs := #[.int .i64 0, .bool false, .int .i64 0, .string (⟨#[]⟩ : ByteArray), .slice none 0 0, .slice none 0 0]) ?_ 0 _ rfl; (with_reducible repeat (first | refine qAf ?_ _ | refine qAh ?_ | refine blk_alloc ?_ _)); exact BK480.out) hb); have n6_ := Aside0.mk (qAi (by repeat (first | (with_reducible first | exact HB.out | apply qAd | apply qAb | apply qAe | refine qAg ?_ GE476.out | refine qAg ?_ GE480.out) | exact HB.out)) hb); clear HO_0; clear HO_5; clear HO475; clear HO479; clear BK476; clear BK480; clear HB; have HO_0 := n0_; have HO_5 := n1_; have HO475 := n2_; have HO479 := n3_; have BK476 := n4_; have BK480 := n5_; have HB := n6_; clear n0_ n1_ n2_ n3_ n4_ n5_ n6_; (try clear hb); (try clear hb2); (try clear hk); (try clear hi); have hcz101_0 : w100.cell? ⟨gb480, 0, none⟩ = some (.int .i64 5) := (qAc BK480.out 0).trans rfl; have hcz101_1 : w100.cell? ⟨gb480, 1, none⟩ = some (.bool false) := (qAc BK480.out 1).trans rfl; have hcz101_2 : w100.cell? ⟨gb480, 2, none⟩ = some (.int .i64 0) := (qAc BK480.out 2).trans rfl; have hcz101_3 : w100.cell? ⟨gb480, 3, none⟩ = some (.string (⟨#[]⟩ : ByteArray)) := (qAc BK480.out 3).trans rfl; have hcz101_4 : w100.cell? ⟨gb480, 4, none⟩ = some (.slice Ao95 y477.length co95) := (qAc BK480.out 4).trans rfl; have hcz101_5 : w100.cell? ⟨gb480, 5, none⟩ = some (.slice Ao94 x5_2.length co94) := (qAc BK480.out 5).trans rfl; have hfz101_0 := qAa BK480.out 0; have hfz101_1 := qAa BK480.out 1; have hfz101_2 := qAa BK480.out 2; have hfz101_3 := qAa BK480.out 3; have hfz101_4 := qAa BK480.out 4; have hfz101_5 := qAa BK480.out 5) | ((with_reducible refine qAn (f := 16) rfl ?_); refine goesL_ (some 83) rfl rfl Tryd.func16 (by kernel_rfl) rfl #[.agg #[.int .i64 5, .bool false, .int .i64 0, .string (⟨#[]⟩ : ByteArray), .slice Ao95 y477.length co95, .slice Ao94 x5_2.length co94]] rfl (by (try simp only [List.map_toArray, List.map_cons, List.map_nil]); first | done | rfl | (simp only [List.length_drop, List.length_take]; rfl)) ?_; (with_reducible refine (value_Lay.calls k2 5 false 0 (⟨#[]⟩ : ByteArray) _ _ y477 _ _ x5_2 t483 t484 _ ?side1 ?side2 ?side3 ?side4 ?side5 A51.out).mono ?_); (case side1 => exact ⟨Tabs.below hT.out (by repeat (first | (with_reducible first | exact HB.out | apply qAd | apply qAb | apply qAe | refine qAg ?_ GE476.out | refine qAg ?_ GE480.out) | exact HB.out))⟩); (case side2 => repeat (first | exact (Kd.N_reads' HO479.out).2.2 | (with_reducible refine Kd.C_alloc ?_ _) | (with_reducible refine Kd.C_drewN ?_ _) | (with_reducible refine Kd.C_drew ?_))); (case side3 => exact (Kd.N_reads' HO479.out).2.1); (case side4 => repeat (first | exact (Kd.R_reads' HO_5.out).2.2 | (with_reducible refine Kd.C_alloc ?_ _) | (with_reducible refine Kd.C_drewN ?_ _) | (with_reducible refine Kd.C_drew ?_))); (case side5 => exact (Kd.R_reads' HO_5.out).2.1); rintro e w102 ⟨rfl, hb⟩; refine ⟨_, rfl, ?_⟩; have n0_ := Aside0.mk (Kd.V_below (by (with_reducible repeat (first | apply Kd.V_alloc | apply Kd.V_drewN | apply Kd.V_drew)); exact HO_0.out) hb); have n1_ := Aside0.mk (Kd.R_below (by (with_reducible repeat (first | apply Kd.R_alloc | apply Kd.R_drewN | apply Kd.R_drew)); exact HO_5.out) hb); have n2_ := Aside0.mk (Kd.N_below (by (with_reducible repeat (first | apply Kd.N_alloc | apply Kd.N_drewN | apply Kd.N_drew)); exact HO475.out) hb); have n3_ := Aside0.mk (Kd.N_below (by (with_reducible repeat (first | apply Kd.N_alloc | apply Kd.N_drewN | apply Kd.N_drew)); exact HO479.out) hb); have n4_ := Aside0.mk (qAk (g := gb476) (o := .cells #[.int .i64 4, .bool false, .int .i64 0, .string (⟨#[]⟩ : ByteArray), .slice Ao90 y473.length co90, .slice none 0 0] 25 (0, 0)) (by (with_reducible repeat (first | refine qAf ?_ _ | refine qAh ?_ | refine blk_alloc ?_ _)); exact BK476.out) hb); have n5_ := Aside0.mk (qAk (g := gb480) (o := .cells #[.int .i64 5, .bool false, .int .i64 0, .string (⟨#[]⟩ : ByteArray), .slice Ao95 y477.length co95, .slice Ao94 x5_2.length co94] 25 (0, 0)) (by (with_reducible repeat (first | refine qAf ?_ _ | refine qAh ?_ | refine blk_alloc ?_ _)); exact BK480.out) hb); have n6_ := Aside0.mk (qAi (by repeat (first | (with_reducible first | exact HB.out | apply qAd | apply qAb | apply qAe | refine qAg ?_ GE476.out | refine qAg ?_ GE480.out) | exact HB.out)) hb); clear HO_0; clear HO_5; clear HO475; clear HO479; clear BK476; clear BK480; clear HB; have HO_0 := n0_; have HO_5 := n1_; have HO475 := n2_; have HO479 := n3_; have BK476 := n4_; have BK480 := n5_; have HB := n6_; clear n0_ n1_ n2_ n3_ n4_ n5_ n6_; (try clear hb); (try clear hb2); (try clear hk); (try clear hi); have hcz103_0 : w102.cell? ⟨gb476, 0, none⟩ = some (.int .i64 4) := (qAc BK476.out 0).trans rfl; have hcz103_1 : w102.cell? ⟨gb476, 1, none⟩ = some (.bool false) := (qAc BK476.out 1).trans rfl; have hcz103_2 : w102.cell? ⟨gb476, 2, none⟩ = some (.int .i64 0) := (qAc BK476.out 2).trans rfl; have hcz103_3 : w102.cell? ⟨gb476, 3, none⟩ = some (.string (⟨#[]⟩ : ByteArray)) := (qAc BK476.out 3).trans rfl; have hcz103_4 : w102.cell? ⟨gb476, 4, none⟩ = some (.slice Ao90 y473.length co90) := (qAc BK476.out 4).trans rfl; have hcz103_5 : w102.cell? ⟨gb476, 5, none⟩ = some (.slice none 0 0) := (qAc BK476.out 5).trans rfl; have hfz103_0 := qAa BK476.out 0; have hfz103_1 := qAa BK476.out 1; have hfz103_2 := qAa BK476.out 2; have hfz103_3 := qAa BK476.out 3; have hfz103_4 := qAa BK476.out 4; have hfz103_5 := qAa BK476.out 5) | (go_at_call 21; (with_reducible refine (value_May.calls 5 false 0 (⟨#[]⟩ : ByteArray) _ _ y477 _ _ x5_2 false _ ?side1 ?side2 ?side3 ?side4 A86.out).mono ?_); (case side1 => repeat (first | exact (Kd.N_reads' HO479.out).2.2 | (with_reducible refine Kd.C_alloc ?_ _) | (with_reducible refine Kd.C_drewN ?_ _) | (with_reducible refine Kd.C_drew ?_))); (case side2 => exact (Kd.N_reads' HO479.out).2.1); (case side3 => repeat (first | exact (Kd.R_reads' HO_5.out).2.2 | (with_reducible refine Kd.C_alloc ?_ _) | (with_reducible refine Kd.C_drewN ?_ _) | (with_reducible refine Kd.C_drew ?_))); (case side4 => exact (Kd.R_reads' HO_5.out).2.1); rintro e w106 ⟨rfl, hb⟩; have n0_ := Aside0.mk (Kd.V_below (by (with_reducible repeat (first | apply Kd.V_alloc | apply Kd.V_drewN | apply Kd.V_drew)); exact HO_0.out) hb); have n1_ := Aside0.mk (Kd.R_below (by (with_reducible repeat (first | apply Kd.R_alloc | apply Kd.R_drewN | apply Kd.R_drew)); exact HO_5.out) hb); have n2_ := Aside0.mk (Kd.N_below (by (with_reducible repeat (first | apply Kd.N_alloc | apply Kd.N_drewN | apply Kd.N_drew)); exact HO475.out) hb); have n3_ := Aside0.mk (Kd.N_below (by (with_reducible repeat (first | apply Kd.N_alloc | apply Kd.N_drewN | apply Kd.N_drew)); exact HO479.out) hb); have n4_ := Aside0.mk (qAk (g := gb476) (o := .cells #[.int .i64 4, .bool false, .int .i64 0, .string (⟨#[]⟩ : ByteArray), .slice Ao90 y473.length co90, .slice none 0 0] 25 (0, 0)) (by (with_reducible repeat (first | refine qAf ?_ _ | refine qAh ?_ | refine blk_alloc ?_ _)); exact BK476.out) hb); have n5_ := Aside0.mk (qAk (g := gb480) (o := .cells #[.int .i64 5, .bool false, .int .i64 0, .string (⟨#[]⟩ : ByteArray), .slice Ao95 y477.length co95, .slice Ao94 x5_2.length co94] 25 (0, 0)) (by (with_reducible repeat (first | refine qAf ?_ _ | refine qAh ?_ | refine blk_alloc ?_ _)); exact BK480.out) hb); have n6_ := Aside0.mk (qAi (by repeat (first | (with_reducible first | exact HB.out | apply qAd | apply qAb | apply qAe | refine qAg ?_ GE476.out | refine qAg ?_ GE480.out) | exact HB.out)) hb); clear HO_0; clear HO_5; clear HO475; clear HO479; clear BK476; clear BK480; clear HB; have HO_0 := n0_; have HO_5 := n1_; have HO475 := n2_; have HO479 := n3_; have BK476 := n4_; have BK480 := n5_; have HB := n6_; clear n0_ n1_ n2_ n3_ n4_ n5_ n6_; (try clear hb); (try clear hb2); (try clear hk); (try clear hi)) | (go_at_call 21; (refine (value_May.calls 4 false 0 (⟨#[]⟩ : ByteArray) _ _ y473 _ _ ([] : List ByteArray) false _ ?side1 ?side2 ?side3 ?side4 A84.out).mono ?_); (case side1 => repeat (first | exact (Kd.N_reads' HO475.out).2.2 | (with_reducible refine Kd.C_alloc ?_ _) | (with_reducible refine Kd.C_drewN ?_ _) | (with_reducible refine Kd.C_drew ?_))); (case side2 => exact (Kd.N_reads' HO475.out).2.1); (case side3 => exact Kd.C_nil _ _); (case side4 => exact Nat.le_refl _); rintro e w104 ⟨rfl, hb⟩; have n0_ := Aside0.mk (Kd.V_below (by (with_reducible repeat (first | apply Kd.V_alloc | apply Kd.V_drewN | apply Kd.V_drew)); exact HO_0.out) hb); have n1_ := Aside0.mk (Kd.R_below (by (with_reducible repeat (first | apply Kd.R_alloc | apply Kd.R_drewN | apply Kd.R_drew)); exact HO_5.out) hb); have n2_ := Aside0.mk (Kd.N_below (by (with_reducible repeat (first | apply Kd.N_alloc | apply Kd.N_drewN | apply Kd.N_drew)); exact HO475.out) hb); have n3_ := Aside0.mk (Kd.N_below (by (with_reducible repeat (first | apply Kd.N_alloc | apply Kd.N_drewN | apply Kd.N_drew)); exact HO479.out) hb); have n4_ := Aside0.mk (qAk (g := gb476) (o := .cells #[.int .i64 4, .bool false, .int .i64 0, .string (⟨#[]⟩ : ByteArray), .slice Ao90 y473.length co90, .slice none 0 0] 25 (0, 0)) (by (with_reducible repeat (first | refine qAf ?_ _ | refine qAh ?_ | refine blk_alloc ?_ _)); exact BK476.out) hb); have n5_ := Aside0.mk (qAk (g := gb480) (o := .cells #[.int .i64 5, .bool false, .int .i64 0, .string (⟨#[]⟩ : ByteArray), .slice Ao95 y477.length co95, .slice Ao94 x5_2.length co94] 25 (0, 0)) (by (with_reducible repeat (first | refine qAf ?_ _ | refine qAh ?_ | refine blk_alloc ?_ _)); exact BK480.out) hb); have n6_ := Aside0.mk (qAi (by repeat (first | (with_reducible first | exact HB.out | apply qAd | apply qAb | apply qAe | refine qAg ?_ GE476.out | refine qAg ?_ GE480.out) | exact HB.out)) hb); clear HO_0; clear HO_5; clear HO475; clear HO479; clear BK476; clear BK480; clear HB; have HO_0 := n0_; have HO_5 := n1_; have HO475 := n2_; have HO479 := n3_; have BK476 := n4_; have BK480 := n5_; have HB := n6_; clear n0_ n1_ n2_ n3_ n4_ n5_ n6_; (try clear hb); (try clear hb2); (try clear hk); (try clear hi); have hcz105_0 : w104.cell? ⟨gb480, 0, none⟩ = some (.int .i64 5) := (qAc BK480.out 0).trans rfl; have hcz105_1 : w104.cell? ⟨gb480, 1, none⟩ = some (.bool false) := (qAc BK480.out 1).trans rfl; have hcz105_2 : w104.cell? ⟨gb480, 2, none⟩ = some (.int .i64 0) := (qAc BK480.out 2).trans rfl; have hcz105_3 : w104.cell? ⟨gb480, 3, none⟩ = some (.string (⟨#[]⟩ : ByteArray)) := (qAc BK480.out 3).trans rfl; have hcz105_4 : w104.cell? ⟨gb480, 4, none⟩ = some (.slice Ao95 y477.length co95) := (qAc BK480.out 4).trans rfl; have hcz105_5 : w104.cell? ⟨gb480, 5, none⟩ = some (.slice Ao94 x5_2.length co94) := (qAc BK480.out 5).trans rfl; have hfz105_0 := qAa BK480.out 0; have hfz105_1 := qAa BK480.out 1; have hfz105_2 := qAa BK480.out 2; have hfz105_3 := qAa BK480.out 3; have hfz105_4 := qAa BK480.out 4; have hfz105_5 := qAa BK480.out 5) | (go_at_call 15; (with_reducible refine (hogsheadlaw15_awake.calls k2  t500 _ ?side1 A88.out).mono ?_); (case side1 => exact ⟨Tabs.below hT.out (by repeat (first | (with_reducible first | exact HB.out | apply qAd | apply qAb | apply qAe | refine qAg ?_ GE476.out | refine qAg ?_ GE480.out) | exact HB.out))⟩); rintro e w107 ⟨rfl, hb⟩; have n0_ := Aside0.mk (Kd.V_below (by (with_reducible repeat (first | apply Kd.V_alloc | apply Kd.V_drewN | apply Kd.V_drew)); exact HO_0.out) hb); have n1_ := Aside0.mk (Kd.R_below (by (with_reducible repeat (first | apply Kd.R_alloc | apply Kd.R_drewN | apply Kd.R_drew)); exact HO_5.out) hb); have n2_ := Aside0.mk (Kd.N_below (by (with_reducible repeat (first | apply Kd.N_alloc | apply Kd.N_drewN | apply Kd.N_drew)); exact HO475.out) hb); have n3_ := Aside0.mk (Kd.N_below (by (with_reducible repeat (first | apply Kd.N_alloc | apply Kd.N_drewN | apply Kd.N_drew)); exact HO479.out) hb); have n4_ := Aside0.mk (qAk (g := gb476) (o := .cells #[.int .i64 4, .bool false, .int .i64 0, .string (⟨#[]⟩ : ByteArray), .slice Ao90 y473.length co90, .slice none 0 0] 25 (0, 0)) (by (with_reducible repeat (first | refine qAf ?_ _ | refine qAh ?_ | refine blk_alloc ?_ _)); exact BK476.out) hb); have n5_ := Aside0.mk (qAk (g := gb480) (o := .cells #[.int .i64 5, .bool false, .int .i64 0, .string (⟨#[]⟩ : ByteArray), .slice Ao95 y477.length co95, .slice Ao94 x5_2.length co94] 25 (0, 0)) (by (with_reducible repeat (first | refine qAf ?_ _ | refine qAh ?_ | refine blk_alloc ?_ _)); exact BK480.out) hb); have n6_ := Aside0.mk (qAi (by repeat (first | (with_reducible first | exact HB.out | apply qAd | apply qAb | apply qAe | refine qAg ?_ GE476.out | refine qAg ?_ GE480.out) | exact HB.out)) hb); clear HO_0; clear HO_5; clear HO475; clear HO479; clear BK476; clear BK480; clear HB; have HO_0 := n0_; have HO_5 := n1_; have HO475 := n2_; have HO479 := n3_; have BK476 := n4_; have BK480 := n5_; have HB := n6_; clear n0_ n1_ n2_ n3_ n4_ n5_ n6_; (try clear hb); (try clear hb2); (try clear hk); (try clear hi)))
             go_ret
             exact ⟨by first | rfl | (simp [qAm, qAl] <;> rfl) | (simp [*, qAm, qAl] <;> rfl), by repeat (first | (with_reducible first | exact HB.out | apply qAd | apply qAb | apply qAe | refine qAg ?_ GE476.out | refine qAg ?_ GE480.out) | exact HB.out)⟩
          ·rw [if_neg c83] at H
           have c83b0 : (t484 == t482) = false := beq_eq_false_iff_ne.mpr c83
           have c83b1 : (t484 != t482) = true := bne_iff_ne.mpr c83
           exact absurd (H.trans (congrArg some hr_.out)) (by simp)
        ·replace c52 := Bool.eq_false_iff.mpr c52
         subst c52
         have H1 : (if t482 = 2 then (if t484 = 2 then (if t481.toList = ([] : List UInt8) then (if t483.toList = ([] : List UInt8) then ((hogsheadlaw15_awake.f k2).bind fun t485 => (some t485)) else (some false)) else (some false)) else (some false)) else (some false)) = some r := by rw [if_neg (show ¬ (false = true) by decide)] at H; exact H
         clear H
         have H := H1
         clear H1
         by_cases c108 : t482 = 2
         ·rw [if_pos c108] at H
          have c108b0 : (t482 == 2) = true := beq_iff_eq.mpr c108
          have c108b1 : (t482 != 2) = false := bne_eq_false_iff_eq.mpr c108
          clear c108
          by_cases c109 : t484 = 2
          ·rw [if_pos c109] at H
           have c109b0 : (t484 == 2) = true := beq_iff_eq.mpr c109
           have c109b1 : (t484 != 2) = false := bne_eq_false_iff_eq.mpr c109
           clear c109
           by_cases c110 : t481.toList = ([] : List UInt8)
           ·rw [if_pos c110] at H
            have c110b0 : (t481.toList == ([] : List UInt8)) = true := beq_iff_eq.mpr c110
            have c110b1 : (t481.toList != ([] : List UInt8)) = false := bne_eq_false_iff_eq.mpr c110
            clear c110
            by_cases c111 : t483.toList = ([] : List UInt8)
            ·rw [if_pos c111] at H
             have c111b0 : (t483.toList == ([] : List UInt8)) = true := beq_iff_eq.mpr c111
             have c111b1 : (t483.toList != ([] : List UInt8)) = false := bne_eq_false_iff_eq.mpr c111
             clear c111
             replace H := Option.bind_eq_some_iff.mp H
             obtain ⟨t485, A1120, H⟩ := H
             replace H : (some t485) = some r := H
             have A112 := Aside0.mk A1120
             clear A1120
             obtain rfl := Option.some.inj H
             go_wp2_with (first | ((with_reducible refine qAw (b := .append) (xs := #[.const (.slice none 0 0), .tmp 69]) rfl ?_); at_builtin; refine Kd.N_append_rows k25 (w0 := w) w.heap.size rfl (.const (.slice none 0 0)) (.tmp 69) 22 25 (.agg #[(.int .i64 0), (.bool false), (.int .i64 0), (.string ⟨#[]⟩), (.slice none 0 0), (.slice none 0 0)]) 88 rfl Tryd.underlying22 info25 rfl (by decide) (by omega) (.slice none 0 0) ([] : List (S25)) l0 _ _ _ (fun k_ => (P0_ k_ ∨ w.heap.size ≤ k_) ∧ some k_ ≠ (u5 : Value).ownBlock) (fun k_ => ((fun k_ => (P0_ k_ ∨ w.heap.size ≤ k_) ∧ some k_ ≠ (u5 : Value).ownBlock)) k_ ∧ some k_ ≠ (.slice none 0 0 : Value).ownBlock) rfl rfl ?aO ?aR (fun _ hk => hk) ?aF ?aB ?aS ?aL ?_; (case aR => exact (by skip; exact Kd.V_F (Kd.V_mono (ok' := (fun k_ => ((fun k_ => (P0_ k_ ∨ w.heap.size ≤ k_) ∧ some k_ ≠ (u5 : Value).ownBlock)) k_ ∧ some k_ ≠ (.slice none 0 0 : Value).ownBlock)) (HO_0.out) (fun k_ hk => ⟨⟨hk.1, hk.2⟩, (by simp [Value.ownBlock])⟩)))); (case aB => exact (by repeat (first | (with_reducible first | exact HB.out | apply qAd | apply qAb | apply qAe) | exact HB.out))); (case aF => exact (fun k_ hk => ⟨(.inr (Nat.le_trans (qAj (by repeat (first | (with_reducible first | exact HB.out | apply qAd | apply qAb | apply qAe) | exact HB.out))) hk)), Kd.fresh' (Kd.R_lt (by (with_reducible repeat (first | apply Kd.R_alloc | apply Kd.R_drewN | apply Kd.R_drew)); exact HO_5.out)) k_ hk⟩)); (case aO => exact ((Kd.N_nil _ _ _ _ (fun k_ => (P0_ k_ ∨ w.heap.size ≤ k_) ∧ some k_ ≠ (u5 : Value).ownBlock)))); (case aS => exact (qAj (by repeat (first | (with_reducible first | exact HB.out | apply qAd | apply qAb | apply qAe) | exact HB.out)))); (case aL => have := LMc49.out; omega); intro v474 w113 ho hb hg hat; rw [← Ny473.out] at ho; have n0_ := Aside0.mk (Kd.V_afterv (Kd.V_apart_nil (by (with_reducible repeat (first | apply Kd.V_alloc | apply Kd.V_drewN | apply Kd.V_drew)); exact HO_0.out)) hg hat); have n1_ := Aside0.mk (Kd.R_grown (by (with_reducible repeat (first | apply Kd.R_alloc | apply Kd.R_drewN | apply Kd.R_drew)); exact HO_5.out) hg (fun _ _ => by simp [Value.ownBlock])); have n2_ := Aside0.mk (hb); have n3_ := Aside0.mk (ho); clear HO_0; clear HO_5; clear HB; have HO_0 := n0_; have HO_5 := n1_; have HB := n2_; have HO475 := n3_; clear n0_ n1_ n2_ n3_; clear ho hb hg hat; obtain ⟨Ao114, co114, eo114⟩ := Kd.N_slice HO475.out; subst eo114) | ((with_reducible refine qA0 (N := 11) rfl ?_); refine qAz ?hg (N := 11) ?hd (cs := #[.int .i64 0, .bool false, .int .i64 0, .string (⟨#[]⟩ : ByteArray), .slice none 0 0, .slice none 0 0]) (t := 25) ?hr ?_; (case hd => rfl); (case hg => rfl); (case hr => first | (go_simp; done) | (go_simp; rfl)); intro gb476 hg w115 hbox hb; have n0_ := Aside0.mk (Kd.V_below (Kd.V_elderB (by (with_reducible repeat (first | apply Kd.V_alloc | apply Kd.V_drewN | apply Kd.V_drew)); exact HO_0.out) gb476 (Nat.le_of_eq hg.symm)) hb); have n1_ := Aside0.mk (Kd.R_below (by (with_reducible repeat (first | apply Kd.R_alloc | apply Kd.R_drewN | apply Kd.R_drew)); exact HO_5.out) hb); have n2_ := Aside0.mk (Kd.N_below (Kd.N_elderB (by (with_reducible repeat (first | apply Kd.N_alloc | apply Kd.N_drewN | apply Kd.N_drew)); exact HO475.out) gb476 (Nat.le_of_eq hg.symm)) hb); have n3_ := Aside0.mk (qAi (by repeat (first | (with_reducible first | exact HB.out | apply qAd | apply qAb | apply qAe) | exact HB.out)) hb); have n4_ := Aside0.mk (hbox); have n5_ := Aside0.mk ((by rw [hg]; exact (qAj (by repeat (first | (with_reducible first | exact HB.out | apply qAd | apply qAb | apply qAe) | exact HB.out))) : w.heap.size ≤ gb476)); have n6_ := Aside0.mk ((by rw [hg]; exact (qAj (by repeat (first | (with_reducible first | exact HB.out | apply qAd | apply qAb | apply qAe) | exact HB.out))) : w.heap.size ≤ gb476)); clear HO_0; clear HO_5; clear HO475; clear HB; have HO_0 := n0_; have HO_5 := n1_; have HO475 := n2_; have HB := n3_; have BK476 := n4_; have GW476 := n5_; have GE476 := n6_; clear n0_ n1_ n2_ n3_ n4_ n5_ n6_; clear hb hbox hg; have hcz116_0 : w115.cell? ⟨gb476, 0, none⟩ = some (.int .i64 0) := (qAc BK476.out 0).trans rfl; have hcz116_1 : w115.cell? ⟨gb476, 1, none⟩ = some (.bool false) := (qAc BK476.out 1).trans rfl; have hcz116_2 : w115.cell? ⟨gb476, 2, none⟩ = some (.int .i64 0) := (qAc BK476.out 2).trans rfl; have hcz116_3 : w115.cell? ⟨gb476, 3, none⟩ = some (.string (⟨#[]⟩ : ByteArray)) := (qAc BK476.out 3).trans rfl; have hcz116_4 : w115.cell? ⟨gb476, 4, none⟩ = some (.slice none 0 0) := (qAc BK476.out 4).trans rfl; have hcz116_5 : w115.cell? ⟨gb476, 5, none⟩ = some (.slice none 0 0) := (qAc BK476.out 5).trans rfl; have hfz116_0 := qAa BK476.out 0; have hfz116_1 := qAa BK476.out 1; have hfz116_2 := qAa BK476.out 2; have hfz116_3 := qAa BK476.out 3; have hfz116_4 := qAa BK476.out 4; have hfz116_5 := qAa BK476.out 5) | ((with_reducible refine qAw (b := .append) (xs := #[.const (.slice none 0 0), .tmp 73]) rfl ?_); at_builtin; refine Kd.N_append_rows k25 (w0 := w) w.heap.size rfl (.const (.slice none 0 0)) (.tmp 73) 22 25 (.agg #[(.int .i64 0), (.bool false), (.int .i64 0), (.string ⟨#[]⟩), (.slice none 0 0), (.slice none 0 0)]) 88 rfl Tryd.underlying22 info25 rfl (by decide) (by omega) (.slice none 0 0) ([] : List (S25)) l0 _ _ _ (fun k_ => (P0_ k_ ∨ w.heap.size ≤ k_) ∧ some k_ ≠ (u5 : Value).ownBlock ∧ some k_ ≠ (.slice Ao114 y473.length co114 : Value).ownBlock ∧ k_ ≠ gb476) (fun k_ => ((fun k_ => (P0_ k_ ∨ w.heap.size ≤ k_) ∧ some k_ ≠ (u5 : Value).ownBlock ∧ some k_ ≠ (.slice Ao114 y473.length co114 : Value).ownBlock ∧ k_ ≠ gb476)) k_ ∧ some k_ ≠ (.slice none 0 0 : Value).ownBlock) rfl rfl ?aO ?aR (fun _ hk => hk) ?aF ?aB ?aS ?aL ?_; (case aR => exact (by skip; exact Kd.V_F (Kd.V_mono (ok' := (fun k_ => ((fun k_ => (P0_ k_ ∨ w.heap.size ≤ k_) ∧ some k_ ≠ (u5 : Value).ownBlock ∧ some k_ ≠ (.slice Ao114 y473.length co114 : Value).ownBlock ∧ k_ ≠ gb476)) k_ ∧ some k_ ≠ (.slice none 0 0 : Value).ownBlock)) ((Kd.V_far (p := ⟨gb476, 5, none⟩) (Kd.V_far (p := ⟨gb476, 4, none⟩) (Kd.V_far (p := ⟨gb476, 3, none⟩) (Kd.V_far (p := ⟨gb476, 2, none⟩) (Kd.V_far (p := ⟨gb476, 1, none⟩) (Kd.V_far (p := ⟨gb476, 0, none⟩) (Kd.V_mono HO_0.out (fun k_ hk => (⟨hk, hk.2⟩ : _ ∧ k_ ≠ gb476))) (fun _ hk => hk.2) (.int .i64 4)) (fun _ hk => hk.2) (.bool false)) (fun _ hk => hk.2) (.int .i64 0)) (fun _ hk => hk.2) (.string (⟨#[]⟩ : ByteArray))) (fun _ hk => hk.2) (.slice Ao114 y473.length co114)) (fun _ hk => hk.2) (.slice none 0 0))) (fun k_ hk => ⟨⟨hk.1.1.1.1, ⟨hk.1.1.1.2, ⟨hk.1.1.2, hk.1.2⟩⟩⟩, (by simp [Value.ownBlock])⟩)))); (case aB => exact (by repeat (first | (with_reducible first | exact HB.out | apply qAd | apply qAb | apply qAe | refine qAg ?_ GE476.out) | exact HB.out))); (case aF => exact (fun k_ hk => ⟨(.inr (Nat.le_trans (qAj (by repeat (first | (with_reducible first | exact HB.out | apply qAd | apply qAb | apply qAe | refine qAg ?_ GE476.out) | exact HB.out))) hk)), Kd.fresh' (Kd.R_lt (by (with_reducible repeat (first | apply Kd.R_alloc | apply Kd.R_drewN | apply Kd.R_drew)); exact (Kd.R_mono (Kd.R_far (p := ⟨gb476, 5, none⟩) (Kd.R_far (p := ⟨gb476, 4, none⟩) (Kd.R_far (p := ⟨gb476, 3, none⟩) (Kd.R_far (p := ⟨gb476, 2, none⟩) (Kd.R_far (p := ⟨gb476, 1, none⟩) (Kd.R_far (p := ⟨gb476, 0, none⟩) (Kd.R_types HO_5.out BK476.out (by decide)) (fun _ hk => hk.2) (.int .i64 4)) (fun _ hk => hk.2) (.bool false)) (fun _ hk => hk.2) (.int .i64 0)) (fun _ hk => hk.2) (.string (⟨#[]⟩ : ByteArray))) (fun _ hk => hk.2) (.slice Ao114 y473.length co114)) (fun _ hk => hk.2) (.slice none 0 0)) (fun _ h_ => h_.1)))) k_ hk, Kd.fresh' (Kd.N_lt (by (with_reducible repeat (first | apply Kd.N_alloc | apply Kd.N_drewN | apply Kd.N_drew)); exact (Kd.N_mono (Kd.N_far (p := ⟨gb476, 5, none⟩) (Kd.N_far (p := ⟨gb476, 4, none⟩) (Kd.N_far (p := ⟨gb476, 3, none⟩) (Kd.N_far (p := ⟨gb476, 2, none⟩) (Kd.N_far (p := ⟨gb476, 1, none⟩) (Kd.N_far (p := ⟨gb476, 0, none⟩) (Kd.N_mono HO475.out (fun k_ hk => (⟨hk, hk.2⟩ : _ ∧ k_ ≠ gb476))) (fun _ hk => hk.2) (.int .i64 4)) (fun _ hk => hk.2) (.bool false)) (fun _ hk => hk.2) (.int .i64 0)) (fun _ hk => hk.2) (.string (⟨#[]⟩ : ByteArray))) (fun _ hk => hk.2) (.slice Ao114 y473.length co114)) (fun _ hk => hk.2) (.slice none 0 0)) (fun _ h_ => h_.1)))) k_ hk, Kd.freshB (g := gb476) (o := .cells #[.int .i64 4, .bool false, .int .i64 0, .string (⟨#[]⟩ : ByteArray), .slice Ao114 y473.length co114, .slice none 0 0] 25 (0, 0)) (by (with_reducible repeat (first | refine qAf ?_ _ | refine qAh ?_ | refine blk_alloc ?_ _)); refine qAo (cs := #[.int .i64 4, .bool false, .int .i64 0, .string (⟨#[]⟩ : ByteArray), .slice Ao114 y473.length co114, .slice none 0 0]) ?_ 5 _ rfl; (with_reducible repeat (first | refine qAf ?_ _ | refine qAh ?_ | refine blk_alloc ?_ _)); refine qAo (cs := #[.int .i64 4, .bool false, .int .i64 0, .string (⟨#[]⟩ : ByteArray), .slice none 0 0, .slice none 0 0]) ?_ 4 _ rfl; (with_reducible repeat (first | refine qAf ?_ _ | refine qAh ?_ | refine blk_alloc ?_ _)); refine qAo (cs := #[.int .i64 4, .bool false, .int .i64 0, .string (⟨#[]⟩ : ByteArray), .slice none 0 0, .slice none 0 0]) ?_ 3 _ rfl; (with_reducible repeat (first | refine qAf ?_ _ | refine qAh ?_ | refine blk_alloc ?_ _)); refine qAo (cs := #[.int .i64 4, .bool false, .int .i64 0, .string (⟨#[]⟩ : ByteArray), .slice none 0 0, .slice none 0 0]) ?_ 2 _ rfl; (with_reducible repeat (first | refine qAf ?_ _ | refine qAh ?_ | refine blk_alloc ?_ _)); refine qAo (cs := #[.int .i64 4, .bool false, .int .i64 0, .string (⟨#[]⟩ : ByteArray), .slice none 0 0, .slice none 0 0]) ?_ 1 _ rfl; (with_reducible repeat (first | refine qAf ?_ _ | refine qAh ?_ | refine blk_alloc ?_ _)); refine qAo (cs := #[.int .i64 0, .bool false, .int .i64 0, .string (⟨#[]⟩ : ByteArray), .slice none 0 0, .slice none 0 0]) ?_ 0 _ rfl; (with_reducible repeat (first | refine qAf ?_ _ | refine qAh ?_ | refine blk_alloc ?_ _)); exact BK476.out) k_ hk⟩)); (case aO => exact ((Kd.N_nil _ _ _ _ (fun k_ => (P0_ k_ ∨ w.heap.size ≤ k_) ∧ some k_ ≠ (u5 : Value).ownBlock ∧ some k_ ≠ (.slice Ao114 y473.length co114 : Value).ownBlock ∧ k_ ≠ gb476)))); (case aS => exact (qAj (by repeat (first | (with_reducible first | exact HB.out | apply qAd | apply qAb | apply qAe | refine qAg ?_ GE476.out) | exact HB.out)))); (case aL => have := LMc49.out; omega); intro v478 w117 ho hb hg hat; rw [← Ny477.out] at ho; have n0_ := Aside0.mk (Kd.V_afterv (Kd.V_apart_nil (by (with_reducible repeat (first | apply Kd.V_alloc | apply Kd.V_drewN | apply Kd.V_drew)); exact (Kd.V_mono (Kd.V_far (p := ⟨gb476, 5, none⟩) (Kd.V_far (p := ⟨gb476, 4, none⟩) (Kd.V_far (p := ⟨gb476, 3, none⟩) (Kd.V_far (p := ⟨gb476, 2, none⟩) (Kd.V_far (p := ⟨gb476, 1, none⟩) (Kd.V_far (p := ⟨gb476, 0, none⟩) (Kd.V_mono HO_0.out (fun k_ hk => (⟨hk, hk.2⟩ : _ ∧ k_ ≠ gb476))) (fun _ hk => hk.2) (.int .i64 4)) (fun _ hk => hk.2) (.bool false)) (fun _ hk => hk.2) (.int .i64 0)) (fun _ hk => hk.2) (.string (⟨#[]⟩ : ByteArray))) (fun _ hk => hk.2) (.slice Ao114 y473.length co114)) (fun _ hk => hk.2) (.slice none 0 0)) (fun _ h_ => h_.1)))) hg hat); have n1_ := Aside0.mk (Kd.R_grown (by (with_reducible repeat (first | apply Kd.R_alloc | apply Kd.R_drewN | apply Kd.R_drew)); exact (Kd.R_mono (Kd.R_far (p := ⟨gb476, 5, none⟩) (Kd.R_far (p := ⟨gb476, 4, none⟩) (Kd.R_far (p := ⟨gb476, 3, none⟩) (Kd.R_far (p := ⟨gb476, 2, none⟩) (Kd.R_far (p := ⟨gb476, 1, none⟩) (Kd.R_far (p := ⟨gb476, 0, none⟩) (Kd.R_types HO_5.out BK476.out (by decide)) (fun _ hk => hk.2) (.int .i64 4)) (fun _ hk => hk.2) (.bool false)) (fun _ hk => hk.2) (.int .i64 0)) (fun _ hk => hk.2) (.string (⟨#[]⟩ : ByteArray))) (fun _ hk => hk.2) (.slice Ao114 y473.length co114)) (fun _ hk => hk.2) (.slice none 0 0)) (fun _ h_ => h_.1))) hg (fun _ _ => by simp [Value.ownBlock])); have n2_ := Aside0.mk (Kd.N_afterv (Kd.N_apart_nil (by (with_reducible repeat (first | apply Kd.N_alloc | apply Kd.N_drewN | apply Kd.N_drew)); exact (Kd.N_mono (Kd.N_far (p := ⟨gb476, 5, none⟩) (Kd.N_far (p := ⟨gb476, 4, none⟩) (Kd.N_far (p := ⟨gb476, 3, none⟩) (Kd.N_far (p := ⟨gb476, 2, none⟩) (Kd.N_far (p := ⟨gb476, 1, none⟩) (Kd.N_far (p := ⟨gb476, 0, none⟩) (Kd.N_mono HO475.out (fun k_ hk => (⟨hk, hk.2⟩ : _ ∧ k_ ≠ gb476))) (fun _ hk => hk.2) (.int .i64 4)) (fun _ hk => hk.2) (.bool false)) (fun _ hk => hk.2) (.int .i64 0)) (fun _ hk => hk.2) (.string (⟨#[]⟩ : ByteArray))) (fun _ hk => hk.2) (.slice Ao114 y473.length co114)) (fun _ hk => hk.2) (.slice none 0 0)) (fun _ h_ => h_.1)))) hg hat); have n3_ := Aside0.mk (qBt (g := gb476) (o := .cells #[.int .i64 4, .bool false, .int .i64 0, .string (⟨#[]⟩ : ByteArray), .slice Ao114 y473.length co114, .slice none 0 0] 25 (0, 0)) (by (with_reducible repeat (first | refine qAf ?_ _ | refine qAh ?_ | refine blk_alloc ?_ _)); refine qAo (cs := #[.int .i64 4, .bool false, .int .i64 0, .string (⟨#[]⟩ : ByteArray), .slice Ao114 y473.length co114, .slice none 0 0]) ?_ 5 _ rfl; (with_reducible repeat (first | refine qAf ?_ _ | refine qAh ?_ | refine blk_alloc ?_ _)); refine qAo (cs := #[.int .i64 4, .bool false, .int .i64 0, .string (⟨#[]⟩ : ByteArray), .slice none 0 0, .slice none 0 0]) ?_ 4 _ rfl; (with_reducible repeat (first | refine qAf ?_ _ | refine qAh ?_ | refine blk_alloc ?_ _)); refine qAo (cs := #[.int .i64 4, .bool false, .int .i64 0, .string (⟨#[]⟩ : ByteArray), .slice none 0 0, .slice none 0 0]) ?_ 3 _ rfl; (with_reducible repeat (first | refine qAf ?_ _ | refine qAh ?_ | refine blk_alloc ?_ _)); refine qAo (cs := #[.int .i64 4, .bool false, .int .i64 0, .string (⟨#[]⟩ : ByteArray), .slice none 0 0, .slice none 0 0]) ?_ 2 _ rfl; (with_reducible repeat (first | refine qAf ?_ _ | refine qAh ?_ | refine blk_alloc ?_ _)); refine qAo (cs := #[.int .i64 4, .bool false, .int .i64 0, .string (⟨#[]⟩ : ByteArray), .slice none 0 0, .slice none 0 0]) ?_ 1 _ rfl; (with_reducible repeat (first | refine qAf ?_ _ | refine qAh ?_ | refine blk_alloc ?_ _)); refine qAo (cs := #[.int .i64 0, .bool false, .int .i64 0, .string (⟨#[]⟩ : ByteArray), .slice none 0 0, .slice none 0 0]) ?_ 0 _ rfl; (with_reducible repeat (first | refine qAf ?_ _ | refine qAh ?_ | refine blk_alloc ?_ _)); exact BK476.out) hg (by simp [Value.ownBlock])); have n4_ := Aside0.mk (hb); have n5_ := Aside0.mk (ho); clear HO_0; clear HO_5; clear HO475; clear BK476; clear HB; have HO_0 := n0_; have HO_5 := n1_; have HO475 := n2_; have BK476 := n3_; have HB := n4_; have HO479 := n5_; clear n0_ n1_ n2_ n3_ n4_ n5_; clear ho hb hg hat; obtain ⟨Ao118, co118, eo118⟩ := Kd.R_slice HO_5.out; subst eo118; obtain ⟨Ao119, co119, eo119⟩ := Kd.N_slice HO479.out; subst eo119) | ((with_reducible refine qA0 (N := 12) rfl ?_); refine qAz ?hg (N := 12) ?hd (cs := #[.int .i64 0, .bool false, .int .i64 0, .string (⟨#[]⟩ : ByteArray), .slice none 0 0, .slice none 0 0]) (t := 25) ?hr ?_; (case hd => rfl); (case hg => rfl); (case hr => first | (go_simp; done) | (go_simp; rfl)); intro gb480 hg w120 hbox hb; have n0_ := Aside0.mk (Kd.V_below (Kd.V_elderB (by (with_reducible repeat (first | apply Kd.V_alloc | apply Kd.V_drewN | apply Kd.V_drew)); exact HO_0.out) gb480 (Nat.le_of_eq hg.symm)) hb); have n1_ := Aside0.mk (Kd.R_below (by (with_reducible repeat (first | apply Kd.R_alloc | apply Kd.R_drewN | apply Kd.R_drew)); exact HO_5.out) hb); have n2_ := Aside0.mk (Kd.N_below (Kd.N_elderB (by (with_reducible repeat (first | apply Kd.N_alloc | apply Kd.N_drewN | apply Kd.N_drew)); exact HO475.out) gb480 (Nat.le_of_eq hg.symm)) hb); have n3_ := Aside0.mk (Kd.N_below (Kd.N_elderB (by (with_reducible repeat (first | apply Kd.N_alloc | apply Kd.N_drewN | apply Kd.N_drew)); exact HO479.out) gb480 (Nat.le_of_eq hg.symm)) hb); have n4_ := Aside0.mk (qAk (g := gb476) (o := .cells #[.int .i64 4, .bool false, .int .i64 0, .string (⟨#[]⟩ : ByteArray), .slice Ao114 y473.length co114, .slice none 0 0] 25 (0, 0)) (by (with_reducible repeat (first | refine qAf ?_ _ | refine qAh ?_ | refine blk_alloc ?_ _)); exact BK476.out) hb); have n5_ := Aside0.mk (qAi (by repeat (first | (with_reducible first | exact HB.out | apply qAd | apply qAb | apply qAe | refine qAg ?_ GE476.out) | exact HB.out)) hb); have n6_ := Aside0.mk (hbox); have n7_ := Aside0.mk ((by rw [hg]; exact (qAj (by repeat (first | (with_reducible first | exact HB.out | apply qAd | apply qAb | apply qAe | refine qAg ?_ GE476.out) | exact HB.out))) : w.heap.size ≤ gb480)); have n8_ := Aside0.mk ((by rw [hg]; exact (qAj (by repeat (first | (with_reducible first | exact HB.out | apply qAd | apply qAb | apply qAe | refine qAg ?_ GE476.out) | exact HB.out))) : w.heap.size ≤ gb480)); have n9_ := Aside0.mk ((by rw [hg]; exact Nat.ne_of_lt (blk_lt (g := gb476) (o := .cells #[.int .i64 4, .bool false, .int .i64 0, .string (⟨#[]⟩ : ByteArray), .slice Ao114 y473.length co114, .slice none 0 0] 25 (0, 0)) (by (with_reducible repeat (first | refine qAf ?_ _ | refine qAh ?_ | refine blk_alloc ?_ _)); exact BK476.out)) : gb476 ≠ gb480)); have n10_ := Aside0.mk ((by rw [hg]; exact Nat.ne_of_gt (blk_lt (g := gb476) (o := .cells #[.int .i64 4, .bool false, .int .i64 0, .string (⟨#[]⟩ : ByteArray), .slice Ao114 y473.length co114, .slice none 0 0] 25 (0, 0)) (by (with_reducible repeat (first | refine qAf ?_ _ | refine qAh ?_ | refine blk_alloc ?_ _)); exact BK476.out)) : gb480 ≠ gb476)); clear HO_0; clear HO_5; clear HO475; clear HO479; clear BK476; clear HB; have HO_0 := n0_; have HO_5 := n1_; have HO475 := n2_; have HO479 := n3_; have BK476 := n4_; have HB := n5_; have BK480 := n6_; have GW480 := n7_; have GE480 := n8_; have NB476_480 := n9_; have NB480_476 := n10_; clear n0_ n1_ n2_ n3_ n4_ n5_ n6_ n7_ n8_ n9_ n10_; clear hb hbox hg; have hnb121 := NB480_476.out; have hnc121 := NB476_480.out; have hcz122_0 : w120.cell? ⟨gb480, 0, none⟩ = some (.int .i64 0) := (qAc BK480.out 0).trans rfl; have hcz122_1 : w120.cell? ⟨gb480, 1, none⟩ = some (.bool false) := (qAc BK480.out 1).trans rfl; have hcz122_2 : w120.cell? ⟨gb480, 2, none⟩ = some (.int .i64 0) := (qAc BK480.out 2).trans rfl; have hcz122_3 : w120.cell? ⟨gb480, 3, none⟩ = some (.string (⟨#[]⟩ : ByteArray)) := (qAc BK480.out 3).trans rfl; have hcz122_4 : w120.cell? ⟨gb480, 4, none⟩ = some (.slice none 0 0) := (qAc BK480.out 4).trans rfl; have hcz122_5 : w120.cell? ⟨gb480, 5, none⟩ = some (.slice none 0 0) := (qAc BK480.out 5).trans rfl; have hfz122_0 := qAa BK480.out 0; have hfz122_1 := qAa BK480.out 1; have hfz122_2 := qAa BK480.out 2; have hfz122_3 := qAa BK480.out 3; have hfz122_4 := qAa BK480.out 4; have hfz122_5 := qAa BK480.out 5; have hcz123_0 : w120.cell? ⟨gb476, 0, none⟩ = some (.int .i64 4) := (qAc BK476.out 0).trans rfl; have hcz123_1 : w120.cell? ⟨gb476, 1, none⟩ = some (.bool false) := (qAc BK476.out 1).trans rfl; have hcz123_2 : w120.cell? ⟨gb476, 2, none⟩ = some (.int .i64 0) := (qAc BK476.out 2).trans rfl; have hcz123_3 : w120.cell? ⟨gb476, 3, none⟩ = some (.string (⟨#[]⟩ : ByteArray)) := (qAc BK476.out 3).trans rfl; have hcz123_4 : w120.cell? ⟨gb476, 4, none⟩ = some (.slice Ao114 y473.length co114) := (qAc BK476.out 4).trans rfl; have hcz123_5 : w120.cell? ⟨gb476, 5, none⟩ = some (.slice none 0 0) := (qAc BK476.out 5).trans rfl; have hfz123_0 := qAa BK476.out 0; have hfz123_1 := qAa BK476.out 1; have hfz123_2 := qAa BK476.out 2; have hfz123_3 := qAa BK476.out 3; have hfz123_4 := qAa BK476.out 4; have hfz123_5 := qAa BK476.out 5) | ((with_reducible refine qAn (f := 16) rfl ?_); refine goesL_ (some 78) rfl rfl Tryd.func16 (by kernel_rfl) rfl #[.agg #[.int .i64 4, .bool false, .int .i64 0, .string (⟨#[]⟩ : ByteArray), .slice Ao114 y473.length co114, .slice none 0 0]] rfl (by (try simp only [List.map_toArray, List.map_cons, List.map_nil]); first | done | rfl | (simp only [List.length_drop, List.length_take]; rfl)) ?_; (refine (value_Lay.calls k2 4 false 0 (⟨#[]⟩ : ByteArray) _ _ y473 _ _ ([] : List ByteArray) t481 t482 _ ?side1 ?side2 ?side3 ?side4 ?side5 A50.out).mono ?_); (case side1 => exact ⟨Tabs.below hT.out (by repeat (first | (with_reducible first | exact HB.out | apply qAd | apply qAb | apply qAe | refine qAg ?_ GE476.out | refine qAg ?_ GE480.out) | exact HB.out))⟩); (case side2 => refine (Kd.N_reads' (e := 25) (base := w.heap.size) (ok := fun k_ => (((((P0_ k_ ∨ w.heap.size ≤ k_) ∧ some k_ ≠ (.slice Ao118 x5_2.length co118 : Value).ownBlock) ∧ k_ ≠ gb476) ∧ some k_ ≠ (.slice Ao119 y477.length co119 : Value).ownBlock) ∧ k_ ≠ gb480)) (n := y473.length) (c := co114) ?_).2.2; exact (by (with_reducible repeat (first | apply Kd.N_alloc | apply Kd.N_drewN | apply Kd.N_drew)); exact (Kd.N_mono (Kd.N_far (p := ⟨gb480, 5, none⟩) (Kd.N_far (p := ⟨gb480, 4, none⟩) (Kd.N_far (p := ⟨gb480, 3, none⟩) (Kd.N_far (p := ⟨gb480, 2, none⟩) (Kd.N_far (p := ⟨gb480, 1, none⟩) (Kd.N_far (p := ⟨gb480, 0, none⟩) (Kd.N_mono HO475.out (fun k_ hk => (⟨hk, hk.2⟩ : _ ∧ k_ ≠ gb480))) (fun _ hk => hk.2) (.int .i64 5)) (fun _ hk => hk.2) (.bool false)) (fun _ hk => hk.2) (.int .i64 0)) (fun _ hk => hk.2) (.string (⟨#[]⟩ : ByteArray))) (fun _ hk => hk.2) (.slice Ao119 y477.length co119)) (fun _ hk => hk.2) (.slice Ao118 x5_2.length co118)) (fun _ h_ => h_.1)))); (case side3 => exact (Kd.N_reads' HO475.out).2.1); (case side4 => exact Kd.C_nil _ _); (case side5 => exact Nat.le_refl _); rintro e w124 ⟨rfl, hb⟩; refine ⟨_, rfl, ?_⟩; have n0_ := Aside0.mk (Kd.V_below (by (with_reducible repeat (first | apply Kd.V_alloc | apply Kd.V_drewN | apply Kd.V_drew)); exact (Kd.V_mono (Kd.V_far (p := ⟨gb480, 5, none⟩) (Kd.V_far (p := ⟨gb480, 4, none⟩) (Kd.V_far (p := ⟨gb480, 3, none⟩) (Kd.V_far (p := ⟨gb480, 2, none⟩) (Kd.V_far (p := ⟨gb480, 1, none⟩) (Kd.V_far (p := ⟨gb480, 0, none⟩) (Kd.V_mono HO_0.out (fun k_ hk => (⟨hk, hk.2⟩ : _ ∧ k_ ≠ gb480))) (fun _ hk => hk.2) (.int .i64 5)) (fun _ hk => hk.2) (.bool false)) (fun _ hk => hk.2) (.int .i64 0)) (fun _ hk => hk.2) (.string (⟨#[]⟩ : ByteArray))) (fun _ hk => hk.2) (.slice Ao119 y477.length co119)) (fun _ hk => hk.2) (.slice Ao118 x5_2.length co118)) (fun _ h_ => h_.1))) hb); have n1_ := Aside0.mk (Kd.R_below (by (with_reducible repeat (first | apply Kd.R_alloc | apply Kd.R_drewN | apply Kd.R_drew)); exact (Kd.R_mono (Kd.R_far (p := ⟨gb480, 5, none⟩) (Kd.R_far (p := ⟨gb480, 4, none⟩) (Kd.R_far (p := ⟨gb480, 3, none⟩) (Kd.R_far (p := ⟨gb480, 2, none⟩) (Kd.R_far (p := ⟨gb480, 1, none⟩) (Kd.R_far (p := ⟨gb480, 0, none⟩) (Kd.R_types HO_5.out BK480.out (by decide)) (fun _ hk => hk.2) (.int .i64 5)) (fun _ hk => hk.2) (.bool false)) (fun _ hk => hk.2) (.int .i64 0)) (fun _ hk => hk.2) (.string (⟨#[]⟩ : ByteArray))) (fun _ hk => hk.2) (.slice Ao119 y477.length co119)) (fun _ hk => hk.2) (.slice Ao118 x5_2.length co118)) (fun _ h_ => h_.1))) hb); have n2_ := Aside0.mk (Kd.N_below (by (with_reducible repeat (first | apply Kd.N_alloc | apply Kd.N_drewN | apply Kd.N_drew)); exact (Kd.N_mono (Kd.N_far (p := ⟨gb480, 5, none⟩) (Kd.N_far (p := ⟨gb480, 4, none⟩) (Kd.N_far (p := ⟨gb480, 3, none⟩) (Kd.N_far (p := ⟨gb480, 2, none⟩) (Kd.N_far (p := ⟨gb480, 1, none⟩) (Kd.N_far (p := ⟨gb480, 0, none⟩) (Kd.N_mono HO475.out (fun k_ hk => (⟨hk, hk.2⟩ : _ ∧ k_ ≠ gb480))) (fun _ hk => hk.2) (.int .i64 5)) (fun _ hk => hk.2) (.bool false)) (fun _ hk => hk.2) (.int .i64 0)) (fun _ hk => hk.2) (.string (⟨#[]⟩ : ByteArray))) (fun _ hk => hk.2) (.slice Ao119 y477.length co119)) (fun _ hk => hk.2) (.slice Ao118 x5_2.length co118)) (fun _ h_ => h_.1))) hb); have n3_ := Aside0.mk (Kd.N_below (by (with_reducible repeat (first | apply Kd.N_alloc | apply Kd.N_drewN | apply Kd.N_drew)); exact (Kd.N_mono (Kd.N_far (p := ⟨gb480, 5, none⟩) (Kd.N_far (p := ⟨gb480, 4, none⟩) (Kd.N_far (p := ⟨gb480, 3, none⟩) (Kd.N_far (p := ⟨gb480, 2, none⟩) (Kd.N_far (p := ⟨gb480, 1, none⟩) (Kd.N_far (p := ⟨gb480, 0, none⟩) (Kd.N_mono HO479.out (fun k_ hk => (⟨hk, hk.2⟩ : _ ∧ k_ ≠ gb480))) (fun _ hk => hk.2) (.int .i64 5)) (fun _ hk => hk.2) (.bool false)) (fun _ hk => hk.2) (.int .i64 0)) (fun _ hk => hk.2) (.string (⟨#[]⟩ : ByteArray))) (fun _ hk => hk.2) (.slice Ao119 y477.length co119)) (fun _ hk => hk.2) (.slice Ao118 x5_2.length co118)) (fun _ h_ => h_.1))) hb); have n4_ := Aside0.mk (qAk (g := gb476) (o := .cells #[.int .i64 4, .bool false, .int .i64 0, .string (⟨#[]⟩ : ByteArray), .slice Ao114 y473.length co114, .slice none 0 0] 25 (0, 0)) (by (with_reducible repeat (first | refine qAf ?_ _ | refine qAh ?_ | refine blk_alloc ?_ _)); refine qAv ?_ NB476_480.out _; (with_reducible repeat (first | refine qAf ?_ _ | refine qAh ?_ | refine blk_alloc ?_ _)); refine qAv ?_ NB476_480.out _; (with_reducible repeat (first | refine qAf ?_ _ | refine qAh ?_ | refine blk_alloc ?_ _)); refine qAv ?_ NB476_480.out _; (with_reducible repeat (first | refine qAf ?_ _ | refine qAh ?_ | refine blk_alloc ?_ _)); refine qAv ?_ NB476_480.out _; (with_reducible repeat (first | refine qAf ?_ _ | refine qAh ?_ | refine blk_alloc ?_ _)); refine qAv ?_ NB476_480.out _; (with_reducible repeat (first | refine qAf ?_ _ | refine qAh ?_ | refine blk_alloc ?_ _)); refine qAv ?_ NB476_480.out _; (with_reducible repeat (first | refine qAf ?_ _ | refine qAh ?_ | refine blk_alloc ?_ _)); exact BK476.out) hb); have n5_ := Aside0.mk (qAk (g := gb480) (o := .cells #[.int .i64 5, .bool false, .int .i64 0, .string (⟨#[]⟩ : ByteArray), .slice Ao119 y477.length co119, .slice Ao118 x5_2.length co118] 25 (0, 0)) (by (with_reducible repeat (first | refine qAf ?_ _ | refine qAh ?_ | refine blk_alloc ?_ _)); refine qAo (cs := #[.int .i64 5, .bool false, .int .i64 0, .string (⟨#[]⟩ : ByteArray), .slice Ao119 y477.length co119, .slice none 0 0]) ?_ 5 _ rfl; (with_reducible repeat (first | refine qAf ?_ _ | refine qAh ?_ | refine blk_alloc ?_ _)); refine qAo (cs := #[.int .i64 5, .bool false, .int .i64 0, .string (⟨#[]⟩ : ByteArray), .slice none 0 0, .slice none 0 0]) ?_ 4 _ rfl; (with_reducible repeat (first | refine qAf ?_ _ | refine qAh ?_ | refine blk_alloc ?_ _)); refine qAo (cs := #[.int .i64 5, .bool false, .int .i64 0, .string (⟨#[]⟩ : ByteArray), .slice none 0 0, .slice none 0 0]) ?_ 3 _ rfl; (with_reducible repeat (first | refine qAf ?_ _ | refine qAh ?_ | refine blk_alloc ?_ _)); refine qAo (cs := #[.int .i64 5, .bool false, .int .i64 0, .string (⟨#[]⟩ : ByteArray), .slice none 0 0, .slice none 0 0]) ?_ 2 _ rfl; (with_reducible repeat (first | refine qAf ?_ _ | refine qAh ?_ | refine blk_alloc ?_ _)); refine qAo (cs := #[.int .i64 5, .bool false, .int .i64 0, .string (⟨#[]⟩ : ByteArray), .slice none 0 0, .slice none 0 0]) ?_ 1 _ rfl; (with_reducible repeat (first | refine qAf ?_ _ | refine qAh ?_ | refine blk_alloc ?_ _)); refine qAo (cs := #[.int .i64 0, .bool false, .int .i64 0, .string (⟨#[]⟩ : ByteArray), .slice none 0 0, .slice none 0 0]) ?_ 0 _ rfl; (with_reducible repeat (first | refine qAf ?_ _ | refine qAh ?_ | refine blk_alloc ?_ _)); exact BK480.out) hb); have n6_ := Aside0.mk (qAi (by repeat (first | (with_reducible first | exact HB.out | apply qAd | apply qAb | apply qAe | refine qAg ?_ GE476.out | refine qAg ?_ GE480.out) | exact HB.out)) hb); clear HO_0; clear HO_5; clear HO475; clear HO479; clear BK476; clear BK480; clear HB; have HO_0 := n0_; have HO_5 := n1_; have HO475 := n2_; have HO479 := n3_; have BK476 := n4_; have BK480 := n5_; have HB := n6_; clear n0_ n1_ n2_ n3_ n4_ n5_ n6_; (try clear hb); (try clear hb2); (try clear hk); (try clear hi); have hcz125_0 : w124.cell? ⟨gb480, 0, none⟩ = some (.int .i64 5) := (qAc BK480.out 0).trans rfl; have hcz125_1 : w124.cell? ⟨gb480, 1, none⟩ = some (.bool false) := (qAc BK480.out 1).trans rfl; have hcz125_2 : w124.cell? ⟨gb480, 2, none⟩ = some (.int .i64 0) := (qAc BK480.out 2).trans rfl; have hcz125_3 : w124.cell? ⟨gb480, 3, none⟩ = some (.string (⟨#[]⟩ : ByteArray)) := (qAc BK480.out 3).trans rfl; have hcz125_4 : w124.cell? ⟨gb480, 4, none⟩ = some (.slice Ao119 y477.length co119) := (qAc BK480.out 4).trans rfl; have hcz125_5 : w124.cell? ⟨gb480, 5, none⟩ = some (.slice Ao118 x5_2.length co118) := (qAc BK480.out 5).trans rfl; have hfz125_0 := qAa BK480.out 0; have hfz125_1 := qAa BK480.out 1; have hfz125_2 := qAa BK480.out 2; have hfz125_3 := qAa BK480.out 3; have hfz125_4 := qAa BK480.out 4; have hfz125_5 := qAa BK480.out 5) | ((with_reducible refine qAn (f := 16) rfl ?_); refine goesL_ (some 83) rfl rfl Tryd.func16 (by kernel_rfl) rfl #[.agg #[.int .i64 5, .bool false, .int .i64 0, .string (⟨#[]⟩ : ByteArray), .slice Ao119 y477.length co119, .slice Ao118 x5_2.length co118]] rfl (by (try simp only [List.map_toArray, List.map_cons, List.map_nil]); first | done | rfl | (simp only [List.length_drop, List.length_take]; rfl)) ?_; (with_reducible refine (value_Lay.calls k2 5 false 0 (⟨#[]⟩ : ByteArray) _ _ y477 _ _ x5_2 t483 t484 _ ?side1 ?side2 ?side3 ?side4 ?side5 A51.out).mono ?_); (case side1 => exact ⟨Tabs.below hT.out (by repeat (first | (with_reducible first | exact HB.out | apply qAd | apply qAb | apply qAe | refine qAg ?_ GE476.out | refine qAg ?_ GE480.out) | exact HB.out))⟩); (case side2 => repeat (first | exact (Kd.N_reads' HO479.out).2.2 | (with_reducible refine Kd.C_alloc ?_ _) | (with_reducible refine Kd.C_drewN ?_ _) | (with_reducible refine Kd.C_drew ?_))); (case side3 => exact (Kd.N_reads' HO479.out).2.1); (case side4 => repeat (first | exact (Kd.R_reads' HO_5.out).2.2 | (with_reducible refine Kd.C_alloc ?_ _) | (with_reducible refine Kd.C_drewN ?_ _) | (with_reducible refine Kd.C_drew ?_))); (case side5 => exact (Kd.R_reads' HO_5.out).2.1); rintro e w126 ⟨rfl, hb⟩; refine ⟨_, rfl, ?_⟩; have n0_ := Aside0.mk (Kd.V_below (by (with_reducible repeat (first | apply Kd.V_alloc | apply Kd.V_drewN | apply Kd.V_drew)); exact HO_0.out) hb); have n1_ := Aside0.mk (Kd.R_below (by (with_reducible repeat (first | apply Kd.R_alloc | apply Kd.R_drewN | apply Kd.R_drew)); exact HO_5.out) hb); have n2_ := Aside0.mk (Kd.N_below (by (with_reducible repeat (first | apply Kd.N_alloc | apply Kd.N_drewN | apply Kd.N_drew)); exact HO475.out) hb); have n3_ := Aside0.mk (Kd.N_below (by (with_reducible repeat (first | apply Kd.N_alloc | apply Kd.N_drewN | apply Kd.N_drew)); exact HO479.out) hb); have n4_ := Aside0.mk (qAk (g := gb476) (o := .cells #[.int .i64 4, .bool false, .int .i64 0, .string (⟨#[]⟩ : ByteArray), .slice Ao114 y473.length co114, .slice none 0 0] 25 (0, 0)) (by (with_reducible repeat (first | refine qAf ?_ _ | refine qAh ?_ | refine blk_alloc ?_ _)); exact BK476.out) hb); have n5_ := Aside0.mk (qAk (g := gb480) (o := .cells #[.int .i64 5, .bool false, .int .i64 0, .string (⟨#[]⟩ : ByteArray), .slice Ao119 y477.length co119, .slice Ao118 x5_2.length co118] 25 (0, 0)) (by (with_reducible repeat (first | refine qAf ?_ _ | refine qAh ?_ | refine blk_alloc ?_ _)); exact BK480.out) hb); have n6_ := Aside0.mk (qAi (by repeat (first | (with_reducible first | exact HB.out | apply qAd | apply qAb | apply qAe | refine qAg ?_ GE476.out | refine qAg ?_ GE480.out) | exact HB.out)) hb); clear HO_0; clear HO_5; clear HO475; clear HO479; clear BK476; clear BK480; clear HB; have HO_0 := n0_; have HO_5 := n1_; have HO475 := n2_; have HO479 := n3_; have BK476 := n4_; have BK480 := n5_; have HB := n6_; clear n0_ n1_ n2_ n3_ n4_ n5_ n6_; (try clear hb); (try clear hb2); (try clear hk); (try clear hi)) | (go_at_call 15; (with_reducible refine (hogsheadlaw15_awake.calls k2  t485 _ ?side1 A112.out).mono ?_); (case side1 => exact ⟨Tabs.below hT.out (by repeat (first | (with_reducible first | exact HB.out | apply qAd | apply qAb | apply qAe | refine qAg ?_ GE476.out | refine qAg ?_ GE480.out) | exact HB.out))⟩); rintro e w127 ⟨rfl, hb⟩; have n0_ := Aside0.mk (Kd.V_below (by (with_reducible repeat (first | apply Kd.V_alloc | apply Kd.V_drewN | apply Kd.V_drew)); exact HO_0.out) hb); have n1_ := Aside0.mk (Kd.R_below (by (with_reducible repeat (first | apply Kd.R_alloc | apply Kd.R_drewN | apply Kd.R_drew)); exact HO_5.out) hb); have n2_ := Aside0.mk (Kd.N_below (by (with_reducible repeat (first | apply Kd.N_alloc | apply Kd.N_drewN | apply Kd.N_drew)); exact HO475.out) hb); have n3_ := Aside0.mk (Kd.N_below (by (with_reducible repeat (first | apply Kd.N_alloc | apply Kd.N_drewN | apply Kd.N_drew)); exact HO479.out) hb); have n4_ := Aside0.mk (qAk (g := gb476) (o := .cells #[.int .i64 4, .bool false, .int .i64 0, .string (⟨#[]⟩ : ByteArray), .slice Ao114 y473.length co114, .slice none 0 0] 25 (0, 0)) (by (with_reducible repeat (first | refine qAf ?_ _ | refine qAh ?_ | refine blk_alloc ?_ _)); exact BK476.out) hb); have n5_ := Aside0.mk (qAk (g := gb480) (o := .cells #[.int .i64 5, .bool false, .int .i64 0, .string (⟨#[]⟩ : ByteArray), .slice Ao119 y477.length co119, .slice Ao118 x5_2.length co118] 25 (0, 0)) (by (with_reducible repeat (first | refine qAf ?_ _ | refine qAh ?_ | refine blk_alloc ?_ _)); exact BK480.out) hb); have n6_ := Aside0.mk (qAi (by repeat (first | (with_reducible first | exact HB.out | apply qAd | apply qAb | apply qAe | refine qAg ?_ GE476.out | refine qAg ?_ GE480.out) | exact HB.out)) hb); clear HO_0; clear HO_5; clear HO475; clear HO479; clear BK476; clear BK480; clear HB; have HO_0 := n0_; have HO_5 := n1_; have HO475 := n2_; have HO479 := n3_; have BK476 := n4_; have BK480 := n5_; have HB := n6_; clear n0_ n1_ n2_ n3_ n4_ n5_ n6_; (try clear hb); (try clear hb2); (try clear hk); (try clear hi)))
             go_ret
             exact ⟨by first | rfl | (simp [qAm, qAl] <;> rfl) | (simp [*, qAm, qAl] <;> rfl), by repeat (first | (with_reducible first | exact HB.out | apply qAd | apply qAb | apply qAe | refine qAg ?_ GE476.out | refine qAg ?_ GE480.out) | exact HB.out)⟩
            ·rw [if_neg c111] at H
             have c111b0 : (t483.toList == ([] : List UInt8)) = false := beq_eq_false_iff_ne.mpr c111
             have c111b1 : (t483.toList != ([] : List UInt8)) = true := bne_iff_ne.mpr c111
             exact absurd (H.trans (congrArg some hr_.out)) (by simp)
           ·rw [if_neg c110] at H
            have c110b0 : (t481.toList == ([] : List UInt8)) = false := beq_eq_false_iff_ne.mpr c110
            have c110b1 : (t481.toList != ([] : List UInt8)) = true := bne_iff_ne.mpr c110
            exact absurd (H.trans (congrArg some hr_.out)) (by simp)
          ·rw [if_neg c109] at H
           have c109b0 : (t484 == 2) = false := beq_eq_false_iff_ne.mpr c109
           have c109b1 : (t484 != 2) = true := bne_iff_ne.mpr c109
           exact absurd (H.trans (congrArg some hr_.out)) (by simp)
         ·rw [if_neg c108] at H
          have c108b0 : (t482 == 2) = false := beq_eq_false_iff_ne.mpr c108
          have c108b1 : (t482 != 2) = true := bne_iff_ne.mpr c108
          exact absurd (H.trans (congrArg some hr_.out)) (by simp)
       ·rw [if_neg c49] at H
        exact absurd H (by simp)
end Go.Proofs.YtbnoihpooeombaaDoor.P

namespace Go.Proofs.YtbnoihpooeombaaDoor.X
open Go.RowKit Go.Proofs.YtbnoihpooeombaaDoorW.PrintWords Go.Proofs.YtbnoihpooeombaaDoor.P
set_option linter.unusedVariables false
set_option linter.unusedSimpArgs false
def tI (v : S25) : List Int := if goodV 16 v = true then textI 16 v else []
def accL (vs : List S25) : List Int := 91 :: joinC 44 (vs.map tI)
def accP (ks : List ByteArray) (vs : List S25) : List (List Int) := (ks.zip vs).map (fun p => quoteL p.1 ++ 58 :: tI p.2)
def accO (ks : List ByteArray) (vs : List S25) : List Int := 123 :: joinC 44 (accP ks vs)
theorem tI_len {v : S25} (h : Small 60 v) : (tI v).length ≤ 78000 := by
  unfold tI
  split
  · rename_i hg
    have h1 := qCq 16 60 v h.1 hg
    rw [qCu v hg h.1] at h1
    have := h.2
    omega
  · simp
theorem sum_le' {α : Type} (f : α → Nat) (c : Nat) : ∀ l : List α, (∀ x ∈ l, f x ≤ c) → (l.map f).sum ≤ l.length * c
  | [], _ => by simp
  | a :: l, h => by
    have := sum_le' f c l (fun x hx => h x (List.mem_cons_of_mem _ hx))
    have h2 := h a (List.mem_cons_self ..)
    simp only [List.map_cons, List.sum_cons, List.length_cons, Nat.add_mul]
    omega
theorem qFu (vs : List S25) (h : ∀ v ∈ vs, Small 60 v) (hn : vs.length ≤ 8) : (accL vs).length ≤ 1000000 := by
  have h1 := qCp 44 (vs.map tI)
  rw [List.map_map] at h1
  have h2 := sum_le' ((fun p => p.length + 1) ∘ tI) 78001 vs (fun v hv => by have := tI_len (h v hv); simp only [Function.comp]; omega)
  have h3 := Nat.mul_le_mul_right 78001 hn
  unfold accL
  rw [List.length_cons]
  omega
theorem qFt (ks : List ByteArray) (vs : List S25) (h : ∀ v ∈ vs, Small 60 v) (hk : ∀ s ∈ ks, s.size = 2) (hn : vs.length ≤ 8) : (accO ks vs).length ≤ 1000000 := by
  have h1 := qCp 44 (accP ks vs)
  unfold accP at h1
  rw [List.map_map] at h1
  have h2 := sum_le' ((fun p : List Int => p.length + 1) ∘ (fun p : ByteArray × S25 => quoteL p.1 ++ 58 :: tI p.2)) 78100 (ks.zip vs) (fun p hp => by
    have ha := tI_len (h p.2 (List.of_mem_zip hp).2)
    have hb := qCj p.1
    have hc := hk p.1 (List.of_mem_zip hp).1
    simp only [Function.comp, List.length_append, List.length_cons]
    omega)
  have h3 : (ks.zip vs).length ≤ 8 := by rw [List.length_zip]; omega
  have h4 := Nat.mul_le_mul_right 78100 h3
  unfold accO accP
  rw [List.length_cons]
  omega
theorem qG7 (vs : List S25) (v : S25) : accL (vs ++ [v]) = if vs = [] then accL vs ++ tI v else (accL vs ++ [44]) ++ tI v := by
  unfold accL
  rw [List.map_append, List.map_cons, List.map_nil, qCx]
  by_cases c : vs = []
  · subst c; simp [joinC]
  · rw [if_neg (by simpa using c), if_neg c]; simp
theorem qG5 (ks : List ByteArray) (vs : List S25) (k : ByteArray) (v : S25) (h : ks.length = vs.length) : accP (ks ++ [k]) (vs ++ [v]) = accP ks vs ++ [quoteL k ++ 58 :: tI v] := by
  unfold accP
  rw [List.zip_append h]
  simp
theorem qG6 (ks : List ByteArray) (vs : List S25) (k : ByteArray) (v : S25) (h : ks.length = vs.length) : accO (ks ++ [k]) (vs ++ [v]) = if vs = [] then accO ks vs ++ (quoteL k ++ 58 :: tI v) else (accO ks vs ++ [44]) ++ (quoteL k ++ 58 :: tI v) := by
  unfold accO
  rw [qG5 ks vs k v h, qCx]
  by_cases c : vs = []
  · subst c
    have : ks = [] := List.length_eq_zero_iff.1 h
    subst this
    simp [joinC, accP]
  · have : accP ks vs ≠ [] := by
      intro e
      have := congrArg List.length e
      unfold accP at this
      rw [List.length_map, List.length_zip, List.length_nil] at this
      have : vs.length ≠ 0 := fun e => c (List.length_eq_zero_iff.1 e)
      omega
    rw [if_neg this, if_neg c]
    simp
def listV (vs : List S25) : S25 := ⟨4, false, 0, ⟨#[]⟩, vs, []⟩
def objV (ks : List ByteArray) (vs : List S25) : S25 := ⟨5, false, 0, ⟨#[]⟩, vs, ks⟩
theorem qH0 (vs : List S25) (h : ∀ v ∈ vs, Small 60 v) (hn : vs.length ≤ 8) : T 61 4000 (listV vs) := by
  refine ⟨⟨show (⟨#[]⟩ : ByteArray).size ≤ 100 by decide, show ([] : List ByteArray).length ≤ 100 by simp, ?_, fun y hy => (h y hy).1⟩, ?_⟩
  · intro s hs; simp [listV] at hs
  · rw [nodesV]
    have h2 := sum_le' (nodesV 60) 60 vs (fun v hv => (h v hv).2)
    have h3 := Nat.mul_le_mul_right 60 hn
    show 1 + (vs.map (nodesV 60)).sum ≤ 4000
    omega
theorem objV_T (ks : List ByteArray) (vs : List S25) (h : ∀ v ∈ vs, Small 60 v) (hk : ∀ s ∈ ks, s.size = 2) (hl : ks.length ≤ 8) (hn : vs.length ≤ 8) : T 61 4000 (objV ks vs) := by
  refine ⟨⟨show (⟨#[]⟩ : ByteArray).size ≤ 100 by decide, show ks.length ≤ 100 by omega, fun s hs => by have := hk s hs; omega, fun y hy => (h y hy).1⟩, ?_⟩
  · rw [nodesV]
    have h2 := sum_le' (nodesV 60) 60 vs (fun v hv => (h v hv).2)
    have h3 := Nat.mul_le_mul_right 60 hn
    show 1 + (vs.map (nodesV 60)).sum ≤ 4000
    omega
theorem qF1 (vs : List S25) (d : Nat) : goodV (d + 1) (listV vs) = vs.all (goodV d) := by
  rw [goodV]
  simp [listV, qA7, qEh]
theorem qGn (ks : List ByteArray) (vs : List S25) (d : Nat) (hl : ks.length = vs.length) (hr : qAx ks = true) : goodV (d + 1) (objV ks vs) = vs.all (goodV d) := by
  rw [goodV]
  simp [objV, qA7, qEh, hl, hr]
theorem tI_up {v : S25} (h : goodV 15 v = true) : tI v = textI 15 v := by
  unfold tI
  rw [if_pos (qCl 15 v h).1, qF9 15 v h]
theorem qGm (vs : List S25) (h : ∀ v ∈ vs, Small 60 v) (hn : vs.length ≤ 8) : Ev (fun k => hogsheadlaw15_ValueParts.l0 k vs (strOfNums (accL vs)) (strOfNums (accO (keysK vs.length) vs)) (keysK vs.length) (vs.all (goodV 16)) (vs.length : Int)) true := by
  have hkl := qDi vs.length
  have hkr := qC3 vs.length hn
  have hks := qD2 vs.length hn
  have hTa := qH0 vs h hn
  have hTb := objV_T (keysK vs.length) vs h hks (by omega) hn
  have hga := qF1 vs 15
  have hgb := qGn (keysK vs.length) vs 15 hkl hkr
  obtain ⟨K0, h0⟩ := qC1
  obtain ⟨K1, h1⟩ := qEa hTa
  obtain ⟨K2, h2⟩ := qEa hTb
  have hma := qDg hTa
  have hmb := qDg hTb
  obtain ⟨K3, h3⟩ := of_val (keysK vs.length) vs (by omega)
  have hof := qD0 (keysK vs.length) vs [] [] (by simpa using hkr) hkl rfl
  rw [List.nil_append, List.nil_append] at hof
  rw [hof] at h3
  obtain ⟨K4, h4⟩ := qDu 61 (by omega) (objV (keysK vs.length) vs) ⟨hTb.1, by have := hTb.2; omega⟩
  have hla := qFu vs h hn
  have hlb := qFt (keysK vs.length) vs h hks hn
  refine ⟨K0 + K1 + K2 + K3 + K4 + 1, fun k hk => ?_⟩
  obtain ⟨k, rfl⟩ : ∃ m, k = m + 1 := ⟨k - 1, by omega⟩
  have h0 := h0 k (by omega)
  have h1 := h1 k (by omega)
  have h2 := h2 k (by omega)
  have h3 := h3 k (by omega)
  have h4 := h4 k (by omega)
  simp only at h0 h1 h2 h3 h4
  rw [hga] at h1 hma
  rw [hgb] at h2 hmb
  simp only [listV, objV] at h1 h2 h4 hma hmb
  simp only [hogsheadlaw15_ValueParts.l0]
  rw [if_neg (by omega), if_pos (by simp only [List.length_nil]; omega), List.nil_append]
  simp only [Option.bind_some]
  rw [h1]
  simp only [Option.bind_some]
  rw [h2]
  simp only [Option.bind_some]
  cases hg16 : vs.all (goodV 16) with
  | false =>
    have hg15 : vs.all (goodV 15) = false := by
      cases e : vs.all (goodV 15) with
      | false => rfl
      | true =>
        rw [List.all_eq_true] at e
        have : vs.all (goodV 16) = true := List.all_eq_true.2 (fun v hv => (qCl 15 v (e v hv)).1)
        rw [this] at hg16; cases hg16
    have e : (⟨#[]⟩ : ByteArray).toList = [] := by rw [ByteArray.toList_eq]
    rw [hg15]
    simp only [Bool.false_eq_true, if_false, reduceIte, e]
    rw [h0]
    rfl
  | true =>
    rw [if_pos rfl]
    cases hg15 : vs.all (goodV 15) with
    | false =>
      rw [hg15] at hma hmb
      simp only [Bool.false_eq_true, if_false, reduceIte]
      rw [if_neg (by decide), hma]
      simp only [Option.bind_some]
      rw [if_neg (by decide), hmb]
      simp only [Option.bind_some]
      rw [if_neg (by decide), h0]
      rfl
    | true =>
      have hall := List.all_eq_true.1 hg15
      rw [hg15] at hma hmb
      simp only [reduceIte]
      have et : vs.map (textI 15) = vs.map tI := List.map_congr_left fun v hv => (tI_up (hall v hv)).symm
      have ea : textB 16 (listV vs) = strOfNums (accL vs) ++ (⟨#[93]⟩ : ByteArray) := by
        rw [show (⟨#[93]⟩ : ByteArray) = strOfNums [93] from rfl, qBq, textB, text_4 15 _ rfl]
        simp only [listV, accL, et]
        rfl
      have ep : ∀ (l : List S25) (ks : List ByteArray), (∀ v ∈ l, goodV 15 v = true) → ks.length = l.length → qAq (textI 15) true l ks = accP ks l := by
        intro l ks hl he
        rw [qDy _ _ _ he]
        unfold accP
        exact List.map_congr_left fun p hp => by rw [tI_up (hl p.2 (List.of_mem_zip hp).2)]
      have eb : textB 16 (objV (keysK vs.length) vs) = strOfNums (accO (keysK vs.length) vs) ++ (⟨#[125]⟩ : ByteArray) := by
        rw [show (⟨#[125]⟩ : ByteArray) = strOfNums [125] from rfl, qBq, textB, text_5 15 _ rfl]
        simp only [objV, accO]
        rw [ep vs _ hall hkl]
        rfl
      simp only [listV, objV] at ea eb
      rw [qBc, if_pos (by omega), ea, if_pos rfl, qBc, if_pos (by omega), eb, if_pos rfl, h3]
      simp only [Option.bind_some]
      have hm : (mayV 16 ⟨5, false, 0, ByteArray.empty, vs, keysK vs.length⟩ 0).2 = true := by
        have := qB3 61 (objV (keysK vs.length) vs) hTb
        rw [hgb, hg15] at this
        exact this
      unfold ofR
      rw [if_pos hm]
      simp only
      have e0 : ByteArray.empty = (⟨#[]⟩ : ByteArray) := rfl
      rw [e0, h4]
      simp only [Option.bind_some]
      rw [if_pos trivial, h0]
      rfl
theorem qHh (vs : List S25) (h : ∀ v ∈ vs, Small 60 v) (hn : vs.length ≤ 8) : ∀ (j i : Nat), vs.length - i = j → i ≤ vs.length →
    Ev (fun k => hogsheadlaw15_ValueParts.l0 k vs (strOfNums (accL (vs.take i))) (strOfNums (accO (keysK i) (vs.take i))) (keysK i) ((vs.take i).all (goodV 16)) (i : Int)) true := by
  intro j
  induction j with
  | zero =>
    intro i hj hi
    have e : i = vs.length := by omega
    subst e
    rw [List.take_of_length_le (Nat.le_refl _)]
    exact qGm vs h hn
  | succ j ih =>
    intro i hj hi
    have hlt : i < vs.length := by omega
    have hv := h vs[i] (List.getElem_mem hlt)
    obtain ⟨K1, h1⟩ := qEa (qHx hv)
    obtain ⟨K2, h2⟩ := ih (i + 1) (by omega) (by omega)
    have hk2 : (keyK i).size = 2 := by rw [qCm i (by omega)]; rfl
    obtain ⟨K3, h3⟩ := qD8 (keyK i) (by omega)
    have hsmall : ∀ v ∈ vs.take i, Small 60 v := fun v hv => h v (List.mem_of_mem_take hv)
    have htl : (vs.take i).length ≤ 8 := by rw [List.length_take]; omega
    have hla := qFu (vs.take i) hsmall htl
    have hlb := qFt (keysK i) (vs.take i) hsmall (qD2 i (by omega)) htl
    have hti := tI_len hv
    have htk : vs.take (i + 1) = vs.take i ++ [vs[i]] := (List.take_append_getElem hlt).symm
    have hkl : (keysK i).length = (vs.take i).length := by rw [qDi, List.length_take]; omega
    rw [htk, qD1, qG7, qG6 _ _ _ _ hkl, List.all_append] at h2
    have hq := qCj (keyK i)
    have hq2 : (quoteL (keyK i)).length ≤ 14 := by omega
    have hnil : vs.take i = [] ↔ i = 0 := by
      rw [← List.length_eq_zero_iff, List.length_take]; omega
    have ets : (if goodV 16 vs[i] = true then ((textB 16 vs[i], (0 : Int)) : ByteArray × Int) else (⟨#[]⟩, 2)) = (strOfNums (tI vs[i]), if goodV 16 vs[i] = true then 0 else 2) := by
      unfold tI
      cases goodV 16 vs[i] <;> rfl
    have ekey : (⟨#[107]⟩ : ByteArray) ++ (⟨#[48, 49, 50, 51, 52, 53, 54, 55]⟩ : ByteArray).extract i (i + 1) = keyK i := rfl
    have esz : ((⟨#[48, 49, 50, 51, 52, 53, 54, 55]⟩ : ByteArray).extract i (i + 1)).size = 1 := by
      have := congrArg ByteArray.size (qCm i (by omega))
      unfold keyK at this
      rw [ByteArray.size_append] at this
      have e5 : (⟨#[107]⟩ : ByteArray).size = 1 := rfl
      have e6 : (⟨#[107, UInt8.ofNat (48 + i)]⟩ : ByteArray).size = 2 := rfl
      omega
    have e44 : (⟨#[44]⟩ : ByteArray) = strOfNums [44] := rfl
    have e58 : (⟨#[58]⟩ : ByteArray) = strOfNums [58] := rfl
    have eflag : ∀ p : Bool, (p && (([vs[i]] : List S25).all (goodV 16))) = (if p = true then ((if goodV 16 vs[i] = true then (0 : Int) else 2) == 0) else false) := by
      intro p
      cases p <;> cases hgx : goodV 16 vs[i] <;> simp [hgx]
    rw [eflag] at h2
    refine ⟨K1 + K2 + K3 + 1, fun k hk => ?_⟩
    obtain ⟨k, rfl⟩ : ∃ m, k = m + 1 := ⟨k - 1, by omega⟩
    have h1 := h1 k (by omega)
    have h2 := h2 k (by omega)
    have h3 := h3 k (by omega)
    simp only at h1 h2 h3
    rw [ets] at h1
    have E3 : Aside0 (wrap64 ((i : Int) + 1) = ((i + 1 : Nat) : Int)) := ⟨qBm (by omega) (by omega)⟩
    simp only [hogsheadlaw15_ValueParts.l0]
    rw [if_pos (by omega), if_pos (by omega), qB2 vs i hlt, h1]
    simp only [Option.bind_some]
    rw [E3.out]
    have c1 : (i : Int) ≤ ((i + 1 : Nat) : Int) := by omega
    have c2 : ((i + 1 : Nat) : Int) ≤ 8 := by omega
    have c3 : 1 + ((⟨#[48, 49, 50, 51, 52, 53, 54, 55]⟩ : ByteArray).extract ((i : Int)).toNat (((i + 1 : Nat) : Int)).toNat).size ≤ 9223372036854775807 := by
      rw [show ((i : Int)).toNat = i from rfl, show (((i + 1 : Nat) : Int)).toNat = i + 1 from rfl, esz]; omega
    have c4 : (keysK i).length < 8796093022208 := by rw [qDi]; omega
    rw [e44, e58, show ((i : Int)).toNat = i from rfl, show (((i + 1 : Nat) : Int)).toNat = i + 1 from rfl, ekey]
    rw [show ((i : Int)).toNat = i from rfl, show (((i + 1 : Nat) : Int)).toNat = i + 1 from rfl] at c3
    rw [quoteB] at h3
    by_cases c : i = 0
    · rw [if_pos (hnil.2 c), if_pos (hnil.2 c)] at h2
      rw [if_neg (by omega), if_pos c1, if_pos c2, if_pos c3, if_pos c4, qBc, qBc, if_pos (by omega), h3]
      simp only [Option.bind_some]
      simp only [qBq, qBc, List.length_append, List.length_cons, List.length_nil]
      rw [if_pos (by omega), if_pos (by omega), if_pos (by omega)]
      have e1 : accO (keysK i) (vs.take i) ++ (quoteL (keyK i) ++ 58 :: tI vs[i]) = ((accO (keysK i) (vs.take i) ++ quoteL (keyK i)) ++ [58]) ++ tI vs[i] := by simp
      rw [e1] at h2
      cases hfl : (vs.take i).all (goodV 16) with
      | true => rw [hfl] at h2; rw [if_pos rfl]; rw [if_pos rfl] at h2; exact h2
      | false => rw [hfl] at h2; rw [if_neg (by decide)]; rw [if_neg (by decide)] at h2; exact h2
    · rw [if_neg (fun h => c (hnil.1 h)), if_neg (fun h => c (hnil.1 h))] at h2
      rw [if_pos (by omega)]
      simp only [qBq, qBc, List.length_append, List.length_cons, List.length_nil]
      rw [if_pos (by omega), if_pos (by omega), if_pos c1, if_pos c2, if_pos c3, if_pos c4, if_pos (by omega), h3]
      simp only [Option.bind_some]
      simp only [qBq, qBc, List.length_append, List.length_cons, List.length_nil]
      rw [if_pos (by omega), if_pos (by omega), if_pos (by omega)]
      have e1 : accO (keysK i) (vs.take i) ++ [44] ++ (quoteL (keyK i) ++ 58 :: tI vs[i]) = (((accO (keysK i) (vs.take i) ++ [44]) ++ quoteL (keyK i)) ++ [58]) ++ tI vs[i] := by simp
      rw [e1] at h2
      cases hfl : (vs.take i).all (goodV 16) with
      | true => rw [hfl] at h2; rw [if_pos rfl]; rw [if_pos rfl] at h2; exact h2
      | false => rw [hfl] at h2; rw [if_neg (by decide)]; rw [if_neg (by decide)] at h2; exact h2
theorem qD5 (vs : List S25) : Ev (fun k => hogsheadlaw15_ValueParts.f k vs) true := by
  obtain ⟨K0, h0⟩ := qC1
  have hT : Ev (fun k => hogsheadlaw15_ValueParts.j0 k vs true) true := by
    refine ⟨K0 + 1, fun k hk => ?_⟩
    obtain ⟨k, rfl⟩ : ∃ m, k = m + 1 := ⟨k - 1, by omega⟩
    have h0 := h0 k (by omega)
    simp only at h0
    simp only [hogsheadlaw15_ValueParts.j0]
    rw [if_pos trivial, h0]
    rfl
  obtain ⟨Kt, hKt⟩ := hT
  by_cases c : (vs.length : Int) > 8
  · refine ⟨Kt, fun k hk => ?_⟩
    show hogsheadlaw15_ValueParts.f k vs = _
    unfold hogsheadlaw15_ValueParts.f
    rw [if_pos c]
    exact hKt k hk
  · obtain ⟨b, ⟨K1, h1⟩, hb⟩ := qF4 vs
    cases b with
    | true =>
      refine ⟨Kt + K1, fun k hk => ?_⟩
      have h1 := h1 k (by omega)
      simp only at h1
      show hogsheadlaw15_ValueParts.f k vs = _
      unfold hogsheadlaw15_ValueParts.f
      rw [if_neg c, h1]
      exact hKt k (by omega)
    | false =>
      obtain ⟨K2, h2⟩ := qHh vs (hb rfl).2 (by omega) vs.length 0 (by omega) (by omega)
      rw [List.take_zero] at h2
      refine ⟨K1 + K2 + 1, fun k hk => ?_⟩
      obtain ⟨k, rfl⟩ : ∃ m, k = m + 1 := ⟨k - 1, by omega⟩
      have h1 := h1 (k + 1) (by omega)
      have h2 := h2 k (by omega)
      simp only at h1
      show hogsheadlaw15_ValueParts.f (k + 1) vs = _
      unfold hogsheadlaw15_ValueParts.f
      rw [if_neg c, h1]
      simp only [Option.bind_some, hogsheadlaw15_ValueParts.j0]
      rw [if_neg (by decide)]
      exact h2
end Go.Proofs.YtbnoihpooeombaaDoor.X
