/- Part 6 of what is behind the row RowValueLays: Pf3, XVU. -/
import Derived.Test.YtbnoihpooeombaaDoorMVLays5
import Derived.Test.YtbnoihpooeombaaDoorProg
import Derived.Below
import Derived.Deep.Draws
import Derived.Deep.AppendLies
import Derived.Maps.AppendAt
import Derived.OwnWalk
import Derived.Laws.BytesArg
import Derived.Laws.MakeOwn
import Derived.Laws.OwnMore
import Derived.Deep.OwnRows
import Derived.Tactics
import Derived.Lib.ConvBytes
import Derived.Laws.Slices
import Derived.WalkKit
import Derived.KernelRfl
import Derived.RowKit3
import Derived.Deep.LoopGhost
import Derived.Deep.QuietTactic
import Derived.BigQuiet
import Derived.WideLaws
import Derived.Deep.DeepCutAuto
import Derived.Deep.CutBlock
import Derived.Deep.RegionHeld3
import Derived.Laws.Rows
import Derived.Lib.AppendStr
import Derived.ArgAppend
import Derived.Laws.IdiomCopy
import Derived.OrdersHeld
import Derived.Laws.BitsLemmas
import Derived.RowKit
import Derived.Laws.Cover1
import Derived.Laws.StructEq
import Derived.Lib.ItoaNum
import Derived.Lib.ItoaMem
import Derived.Deep.AppendSrc
import Derived.Lib.SliceRun
import Derived.Outline
import Derived.WalkLawsBesides
import Derived.WalkSpells
import Derived.LoopTactic
import Derived.Lib.Hide
import Derived.Lib.IndexMore
import Derived.Lib.Bytealg
import Derived.Laws.BitsAllLaws
import Derived.Lib.Repeat
import Derived.Lib.AppendZerosOnto
import Derived.Lib.Overlaps
import Derived.Laws.Externs
import Derived.Laws.CopyOwn
import Derived.Shelf.RegionOpenPlain
import Derived.Laws.Bits64b
import Derived.Laws.NewBlocks
import Derived.Lib.AppendIntMem
import Derived.Shelf.Strings.Builder1
import Derived.Shelf.Strings.Builder2
import Derived.Shelf.Strings.OnBuilder
import Derived.Shelf.Strings.BuilderF
import Derived.Shelf.Strings.BuilderK
import Derived.Shelf.Strconv.Itoa0
import Derived.Shelf.Strconv.Itoa1
import Derived.Shelf.LaysM
import Derived.Shelf.Strconv.Itoa2
import Derived.Shelf.Strconv.Itoa3
import Derived.Shelf.Strings.Prefix
import Derived.Shelf.Bits.Mul64
import Derived.Shelf.Strings.Repeat
import Derived.Deep.DeepMust
import Derived.Lib.ItoaLen
namespace Go.Proofs.YtbnoihpooeombaaDoor.P
open Go.Proofs.YtbnoihpooeombaaDoor.X
open Go.RowKit Go.Proofs.YtbnoihpooeombaaDoorW.PrintWords Go.Proofs.YtbnoihpooeombaaDoorW.PrintLast Go.Proofs.YtbnoihpooeombaaDoorW.PrintMore
attribute [local go_sem] qAz qA5
set_option linter.unusedVariables false
set_option linter.unusedSimpArgs false
def hogsheadlaw15_ValueLays.j0 : Nat → ByteArray → Bool → Int → Bool → Int → ByteArray → List (S25) → List ByteArray → Int → Bool → Int → ByteArray → List (S25) → List ByteArray → Option (Bool)
 | 0, _, _, _, _, _, _, _, _, _, _, _, _, _, _ => none
 | k + 1, x2, x25, x248000, x248001, x248002, x248003, x248004, x248005, x249000, x249001, x249002, x249003, x249004, x249005 => if x25 = true then ((hogsheadlaw15_awake.f k).bind fun t251 => (some t251)) else ((value_Lay.f k x248000 x248001 x248002 x248003 x248004 x248005).bind fun bt252 => ((hogsheadref15_Lay.f k x248000 x248001 x248002 x248003 x248004 x248005).bind fun bt254 => ((value_Get.f k x248000 x248001 x248002 x248003 x248004 x248005 x2).bind fun bt256 => ((hogsheadref15_Get.f k x248000 x248001 x248002 x248003 x248004 x248005 x2).bind fun bt268 => (if bt252.1.toList = bt254.1.toList then ((hogsheadlaw0_Num.f bt252.2).bind fun t280 => (if t280 = bt254.2 then ((value_May.f x248000 x248001 x248002 x248003 x248004 x248005).bind fun t281 => ((hogsheadref15_May.f k x248000 x248001 x248002 x248003 x248004 x248005).bind fun t282 => (if (t281 == t282) = true then ((value_Same.f x248000 x248001 x248002 x248003 x248004 x248005 x249000 x249001 x249002 x249003 x249004 x249005).bind fun t283 => ((hogsheadref15_Same.f k x248000 x248001 x248002 x248003 x248004 x248005 x249000 x249001 x249002 x249003 x249004 x249005).bind fun t284 => (if (t283 == t284) = true then ((hogsheadlaw0_SameValue.f k bt256.1 bt256.2.1 bt256.2.2.1 bt256.2.2.2.1 bt256.2.2.2.2.1 bt256.2.2.2.2.2.1 bt268.1 bt268.2.1 bt268.2.2.1 bt268.2.2.2.1 bt268.2.2.2.2.1 bt268.2.2.2.2.2.1 100).bind fun t285 => (if t285 = true then (if (bt256.2.2.2.2.2.2 == bt268.2.2.2.2.2.2) = true then ((value_Quote.f k x2).bind fun t286 => ((hogsheadref15_Quote.f k x2).bind fun t287 => (if t286.toList = t287.toList then ((hogsheadlaw15_awake.f k).bind fun t288 => (some t288)) else (some false)))) else (some false)) else (some false))) else (some false)))) else (some false)))) else (some false))) else (some false))))))
def hogsheadlaw15_ValueLays.f (k : Nat) (a0_0 : Int) (a0_1 : Bool) (a0_2 : Int) (a0_3 : ByteArray) (l0_4 : List (S25)) (l0_5 : List ByteArray) (a1_0 : Int) (a1_1 : Bool) (a1_2 : Int) (a1_3 : ByteArray) (l1_4 : List (S25)) (l1_5 : List ByteArray) (a2 : ByteArray) : Option (Bool) := (hogsheadlaw0_GreatValue.f k a0_0 a0_1 a0_2 a0_3 l0_4 l0_5 60).bind fun t249 => (if t249 = true then (hogsheadlaw15_ValueLays.j0 k a2 true a0_0 a0_1 a0_2 a0_3 l0_4 l0_5 a1_0 a1_1 a1_2 a1_3 l1_4 l1_5) else ((hogsheadlaw0_GreatValue.f k a1_0 a1_1 a1_2 a1_3 l1_4 l1_5 60).bind fun t250 => (if t250 = true then (hogsheadlaw15_ValueLays.j0 k a2 true a0_0 a0_1 a0_2 a0_3 l0_4 l0_5 a1_0 a1_1 a1_2 a1_3 l1_4 l1_5) else (hogsheadlaw15_ValueLays.j0 k a2 (decide ((a2.size : Int) > 100)) a0_0 a0_1 a0_2 a0_3 l0_4 l0_5 a1_0 a1_1 a1_2 a1_3 l1_4 l1_5))))
def hogsheadlaw15_ValueLays.T7 : Bool × List (List Nat × List Nat) := (true, [([], []), ([], []), ([0, 1], [0, 1]), ([2], [2]), ([3], [3]), ([4, 3, 3], [3, 4]), ([3], [3]), ([5, 6, 3], [3, 5, 6]), ([3, 7], [3, 7]), ([8, 5], [8]), ([9], [9]), ([10, 9, 9], [9, 10]), ([9], [9]), ([12, 11, 9], [9, 12]), ([11, 13, 9], [9, 11, 13]), ([9, 14], [9, 14]), ([15, 13], [15]), ([16], [16]), ([16], [16]), ([17, 18, 16, 16], [16, 17, 18]), ([16], [16]), ([16], [16]), ([20, 21, 19, 16], [16, 20, 21]), ([19, 22, 16], [16, 19, 22]), ([16, 23], [16, 23]), ([24, 22], [24]), ([25], [25]), ([25], [25]), ([26, 27, 25, 25], [25, 26, 27]), ([25, 28], [25, 28]), ([29, 28], [29]), ([30], [30]), ([30], [30]), ([31, 32, 30], [30, 31, 32]), ([30, 33], [30, 33]), ([34, 30], [34]), ([35], [35]), ([36, 35, 35], [35, 36]), ([35], [35]), ([38, 37, 35], [35, 38]), ([37, 39, 35], [35, 37, 39]), ([35, 40], [35, 40]), ([41, 39], [41]), ([42, 42], [42]), ([42, 43], [42, 43]), ([44, 43, 0, 1, 2, 3, 4, 5, 6, 7, 8, 9, 10, 11, 12, 13, 14, 15, 16, 17, 18, 19, 20, 21, 22, 23, 24, 25, 26, 27, 28, 29, 30, 31, 32, 33, 34, 35, 36, 37, 38, 39, 40, 41, 42, 43, 44], [44])])
def hogsheadlaw15_ValueLays.B7 : List Nat := [0, 0, 3, 7, 15, 31, 15, 127, 255, 511, 1023, 2047, 1023, 8191, 16383, 32767, 65535, 131071, 131071, 524287, 131071, 131071, 4194303, 8388607, 16777215, 33554431, 67108863, 67108863, 268435455, 536870911, 1073741823, 2147483647, 2147483647, 8589934591, 17179869183, 34359738367, 68719476735, 137438953471, 68719476735, 549755813887, 1099511627775, 2199023255551, 4398046511103, 8796093022207, 17592186044415, 35184372088831]
theorem hogsheadlaw15_ValueLays.tab7 : rtab .any (opsOf Tryd.f3 7) = hogsheadlaw15_ValueLays.T7 := by kernel_rfl
theorem hogsheadlaw15_ValueLays.bits7 : qCe hogsheadlaw15_ValueLays.T7.2 hogsheadlaw15_ValueLays.B7 = true := by kernel_rfl
set_option maxHeartbeats 8000000 in
set_option maxRecDepth 100000 in
theorem hogsheadlaw15_ValueLays.calls (k : Nat) (a0_0 : Int) (a0_1 : Bool) (a0_2 : Int) (a0_3 : ByteArray) (A0_4 : Option Addr) (c0_4 : Nat) (l0_4 : List (S25)) (A0_5 : Option Addr) (c0_5 : Nat) (l0_5 : List ByteArray) (a1_0 : Int) (a1_1 : Bool) (a1_2 : Int) (a1_3 : ByteArray) (A1_4 : Option Addr) (c1_4 : Nat) (l1_4 : List (S25)) (A1_5 : Option Addr) (c1_5 : Nat) (l1_5 : List ByteArray) (a2 : ByteArray) (r : Bool) (w : World) (hT : Aside0 (Tabs w)) (hr0_4 : Kd.C k25 w A0_4 l0_4.length l0_4) (hc0_4 : l0_4.length ≤ c0_4) (hr0_5 : Kd.C Kd.string w A0_5 l0_5.length l0_5) (hc0_5 : l0_5.length ≤ c0_5) (hr1_4 : Kd.C k25 w A1_4 l1_4.length l1_4) (hc1_4 : l1_4.length ≤ c1_4) (hr1_5 : Kd.C Kd.string w A1_5 l1_5.length l1_5) (hc1_5 : l1_5.length ≤ c1_5) (h : hogsheadlaw15_ValueLays.f k a0_0 a0_1 a0_2 a0_3 l0_4 l0_5 a1_0 a1_1 a1_2 a1_3 l1_4 l1_5 a2 = some r) (hr_ : Aside0 (r = true)) :
  Calls Tryd.prog 3 #[.agg #[.int .i64 a0_0, .bool a0_1, .int .i64 a0_2, .string a0_3, .slice A0_4 l0_4.length c0_4, .slice A0_5 l0_5.length c0_5], .agg #[.int .i64 a1_0, .bool a1_1, .int .i64 a1_2, .string a1_3, .slice A1_4 l1_4.length c1_4, .slice A1_5 l1_5.length c1_5], .string a2] w fun e w' => e = .returned (.bool r) ∧ Below w.heap.size w w' := by
 have hu25 := Tryd.underlying25
 have HR0_4 := Aside0.mk hr0_4
 have HC0_4 := Aside0.mk hc0_4
 clear hr0_4 hc0_4
 have HR0_5 := Aside0.mk hr0_5
 have HC0_5 := Aside0.mk hc0_5
 clear hr0_5 hc0_5
 have HR1_4 := Aside0.mk hr1_4
 have HC1_4 := Aside0.mk hc1_4
 clear hr1_4 hc1_4
 have HR1_5 := Aside0.mk hr1_5
 have HC1_5 := Aside0.mk hc1_5
 clear hr1_5 hc1_5
 have HB := Aside0.mk (Below.refl w.heap.size w)
 have H : ((hogsheadlaw0_GreatValue.f k a0_0 a0_1 a0_2 a0_3 l0_4 l0_5 60).bind fun t249 => (if t249 = true then (hogsheadlaw15_ValueLays.j0 k a2 true a0_0 a0_1 a0_2 a0_3 l0_4 l0_5 a1_0 a1_1 a1_2 a1_3 l1_4 l1_5) else ((hogsheadlaw0_GreatValue.f k a1_0 a1_1 a1_2 a1_3 l1_4 l1_5 60).bind fun t250 => (if t250 = true then (hogsheadlaw15_ValueLays.j0 k a2 true a0_0 a0_1 a0_2 a0_3 l0_4 l0_5 a1_0 a1_1 a1_2 a1_3 l1_4 l1_5) else (hogsheadlaw15_ValueLays.j0 k a2 (decide ((a2.size : Int) > 100)) a0_0 a0_1 a0_2 a0_3 l0_4 l0_5 a1_0 a1_1 a1_2 a1_3 l1_4 l1_5))))) = some r := h
 clear h
 have HC4 := Aside0.mk H
 clear H
 go_enter Tryd.func3, Tryd.ntmps3
 go_upto_region 1 with (first | ((with_reducible refine qAv (N := 3) rfl ?_); (try (refine qBd (by rfl) ?_; dsimp only)); refine qAu ?hg (N := 3) ?hd (cs := #[.int .i64 a0_0, .bool a0_1, .int .i64 a0_2, .string a0_3, .slice A0_4 l0_4.length c0_4, .slice A0_5 l0_5.length c0_5]) (t := 25) ?hr ?_; (case hd => rfl); (case hg => rfl); (case hr => first | (go_simp; done) | (go_simp; rfl)); intro gb247 hg w5 hbox hb; have n0_ := Aside0.mk (qAj (by repeat (first | (with_reducible first | exact HB.out | apply qAd | apply qAc | apply qAe) | exact HB.out)) hb); have n1_ := Aside0.mk (hbox); have n2_ := Aside0.mk ((by rw [hg]; exact (qAl (by repeat (first | (with_reducible first | exact HB.out | apply qAd | apply qAc | apply qAe) | exact HB.out))) : w.heap.size ≤ gb247)); have n3_ := Aside0.mk ((by rw [hg]; exact (qAl (by repeat (first | (with_reducible first | exact HB.out | apply qAd | apply qAc | apply qAe) | exact HB.out))) : w.heap.size ≤ gb247)); clear HB; have HB := n0_; have BK247 := n1_; have GW247 := n2_; have GE247 := n3_; clear n0_ n1_ n2_ n3_; clear hb hbox hg) | ((with_reducible refine qAv (N := 4) rfl ?_); (try (refine qBd (by rfl) ?_; dsimp only)); refine qAu ?hg (N := 4) ?hd (cs := #[.int .i64 a1_0, .bool a1_1, .int .i64 a1_2, .string a1_3, .slice A1_4 l1_4.length c1_4, .slice A1_5 l1_5.length c1_5]) (t := 25) ?hr ?_; (case hd => rfl); (case hg => rfl); (case hr => first | (go_simp; done) | (go_simp; rfl)); intro gb248 hg w6 hbox hb; have n0_ := Aside0.mk (qAi (g := gb247) (o := .cells #[.int .i64 a0_0, .bool a0_1, .int .i64 a0_2, .string a0_3, .slice A0_4 l0_4.length c0_4, .slice A0_5 l0_5.length c0_5] 25 (0, 0)) (by (with_reducible repeat (first | refine qAg ?_ _ | refine qAh ?_ | refine blk_alloc ?_ _)); exact BK247.out) hb); have n1_ := Aside0.mk (qAj (by repeat (first | (with_reducible first | exact HB.out | apply qAd | apply qAc | apply qAe | refine qAf ?_ GE247.out) | exact HB.out)) hb); have n2_ := Aside0.mk (hbox); have n3_ := Aside0.mk ((by rw [hg]; exact (qAl (by repeat (first | (with_reducible first | exact HB.out | apply qAd | apply qAc | apply qAe | refine qAf ?_ GE247.out) | exact HB.out))) : w.heap.size ≤ gb248)); have n4_ := Aside0.mk ((by rw [hg]; exact (qAl (by repeat (first | (with_reducible first | exact HB.out | apply qAd | apply qAc | apply qAe | refine qAf ?_ GE247.out) | exact HB.out))) : w.heap.size ≤ gb248)); have n5_ := Aside0.mk ((by rw [hg]; exact Nat.ne_of_lt (blk_lt (g := gb247) (o := .cells #[.int .i64 a0_0, .bool a0_1, .int .i64 a0_2, .string a0_3, .slice A0_4 l0_4.length c0_4, .slice A0_5 l0_5.length c0_5] 25 (0, 0)) (by (with_reducible repeat (first | refine qAg ?_ _ | refine qAh ?_ | refine blk_alloc ?_ _)); exact BK247.out)) : gb247 ≠ gb248)); have n6_ := Aside0.mk ((by rw [hg]; exact Nat.ne_of_gt (blk_lt (g := gb247) (o := .cells #[.int .i64 a0_0, .bool a0_1, .int .i64 a0_2, .string a0_3, .slice A0_4 l0_4.length c0_4, .slice A0_5 l0_5.length c0_5] 25 (0, 0)) (by (with_reducible repeat (first | refine qAg ?_ _ | refine qAh ?_ | refine blk_alloc ?_ _)); exact BK247.out)) : gb248 ≠ gb247)); clear BK247; clear HB; have BK247 := n0_; have HB := n1_; have BK248 := n2_; have GW248 := n3_; have GE248 := n4_; have NB247_248 := n5_; have NB248_247 := n6_; clear n0_ n1_ n2_ n3_ n4_ n5_ n6_; clear hb hbox hg))
 (try simp only [Act.put, List.setIfInBounds_toArray, List.set_cons_zero, List.set_cons_succ])
 go_cut [25] (fun v25 wc => ∃ (kq : Nat) (x25_3 : Bool), v25 = .bool x25_3 ∧ Aside0 (hogsheadlaw15_ValueLays.j0 kq a2 x25_3 a0_0 a0_1 a0_2 a0_3 l0_4 l0_5 a1_0 a1_1 a1_2 a1_3 l1_4 l1_5 = some r) ∧ Aside0 (kq ≤ k) ∧ Aside0 (wc.heap[gb247]? = some (.cells #[.int .i64 a0_0, .bool a0_1, .int .i64 a0_2, .string a0_3, (.slice A0_4 l0_4.length c0_4), (.slice A0_5 l0_5.length c0_5)] 25 (0, 0))) ∧ Aside0 (wc.heap[gb248]? = some (.cells #[.int .i64 a1_0, .bool a1_1, .int .i64 a1_2, .string a1_3, (.slice A1_4 l1_4.length c1_4), (.slice A1_5 l1_5.length c1_5)] 25 (0, 0))) ∧ Aside0 (Below w.heap.size w wc))
 case first =>
  have H := HC4.out
  clear HC4
  replace H := Option.bind_eq_some_iff.mp H
  obtain ⟨t249, A70, H⟩ := H
  replace H : (if t249 = true then (hogsheadlaw15_ValueLays.j0 k a2 true a0_0 a0_1 a0_2 a0_3 l0_4 l0_5 a1_0 a1_1 a1_2 a1_3 l1_4 l1_5) else ((hogsheadlaw0_GreatValue.f k a1_0 a1_1 a1_2 a1_3 l1_4 l1_5 60).bind fun t250 => (if t250 = true then (hogsheadlaw15_ValueLays.j0 k a2 true a0_0 a0_1 a0_2 a0_3 l0_4 l0_5 a1_0 a1_1 a1_2 a1_3 l1_4 l1_5) else (hogsheadlaw15_ValueLays.j0 k a2 (decide ((a2.size : Int) > 100)) a0_0 a0_1 a0_2 a0_3 l0_4 l0_5 a1_0 a1_1 a1_2 a1_3 l1_4 l1_5)))) = some r := H
  have A7 := Aside0.mk A70
  clear A70
  by_cases c8 : t249 = true
  ·subst c8
   have H1 : (hogsheadlaw15_ValueLays.j0 k a2 true a0_0 a0_1 a0_2 a0_3 l0_4 l0_5 a1_0 a1_1 a1_2 a1_3 l1_4 l1_5) = some r := by rw [if_pos rfl] at H; exact H
   clear H
   have H := H1
   clear H1
   have H' := Aside0.mk H
   clear H
   have hnb9 := NB247_248.out
   have hnc9 := NB248_247.out
   have hcz10_0 : w6.cell? ⟨gb247, 0, none⟩ = some (.int .i64 a0_0) := (qAa BK247.out 0).trans rfl
   have hcz10_1 : w6.cell? ⟨gb247, 1, none⟩ = some (.bool a0_1) := (qAa BK247.out 1).trans rfl
   have hcz10_2 : w6.cell? ⟨gb247, 2, none⟩ = some (.int .i64 a0_2) := (qAa BK247.out 2).trans rfl
   have hcz10_3 : w6.cell? ⟨gb247, 3, none⟩ = some (.string a0_3) := (qAa BK247.out 3).trans rfl
   have hcz10_4 : w6.cell? ⟨gb247, 4, none⟩ = some (.slice A0_4 l0_4.length c0_4) := (qAa BK247.out 4).trans rfl
   have hcz10_5 : w6.cell? ⟨gb247, 5, none⟩ = some (.slice A0_5 l0_5.length c0_5) := (qAa BK247.out 5).trans rfl
   have hfz10_0 := qAb BK247.out 0
   have hfz10_1 := qAb BK247.out 1
   have hfz10_2 := qAb BK247.out 2
   have hfz10_3 := qAb BK247.out 3
   have hfz10_4 := qAb BK247.out 4
   have hfz10_5 := qAb BK247.out 5
   go_wp2_with (first | ((with_reducible refine qAp (f := 14) rfl ?_); refine goesL_ (some 16) rfl rfl Tryd.func14 (by kernel_rfl) rfl #[.agg #[.int .i64 a0_0, .bool a0_1, .int .i64 a0_2, .string a0_3, .slice A0_4 l0_4.length c0_4, .slice A0_5 l0_5.length c0_5], .int .i64 60] rfl (by (try simp only [List.map_toArray, List.map_cons, List.map_nil]); first | done | rfl | (simp only [List.length_drop, List.length_take]; rfl)) ?_; (with_reducible refine (hogsheadlaw0_GreatValue.calls k a0_0 a0_1 a0_2 a0_3 _ _ l0_4 _ _ l0_5 60 true _ ?side1 ?side2 ?side3 ?side4 A7.out).mono ?_); (case side1 => repeat (first | exact (Kd.C_below HR0_4.out HB.out) | (with_reducible refine Kd.C_alloc ?_ _) | (with_reducible refine Kd.C_drewN ?_ _) | (with_reducible refine Kd.C_drew ?_))); (case side2 => exact HC0_4.out); (case side3 => repeat (first | exact (Kd.C_below HR0_5.out HB.out) | (with_reducible refine Kd.C_alloc ?_ _) | (with_reducible refine Kd.C_drewN ?_ _) | (with_reducible refine Kd.C_drew ?_))); (case side4 => exact HC0_5.out); rintro e w11 ⟨rfl, hb⟩; refine ⟨_, rfl, ?_⟩; have n0_ := Aside0.mk (qAi (g := gb247) (o := .cells #[.int .i64 a0_0, .bool a0_1, .int .i64 a0_2, .string a0_3, .slice A0_4 l0_4.length c0_4, .slice A0_5 l0_5.length c0_5] 25 (0, 0)) (by (with_reducible repeat (first | refine qAg ?_ _ | refine qAh ?_ | refine blk_alloc ?_ _)); exact BK247.out) hb); have n1_ := Aside0.mk (qAi (g := gb248) (o := .cells #[.int .i64 a1_0, .bool a1_1, .int .i64 a1_2, .string a1_3, .slice A1_4 l1_4.length c1_4, .slice A1_5 l1_5.length c1_5] 25 (0, 0)) (by (with_reducible repeat (first | refine qAg ?_ _ | refine qAh ?_ | refine blk_alloc ?_ _)); exact BK248.out) hb); have n2_ := Aside0.mk (qAj (by repeat (first | (with_reducible first | exact HB.out | apply qAd | apply qAc | apply qAe | refine qAf ?_ GE247.out | refine qAf ?_ GE248.out) | exact HB.out)) hb); clear BK247; clear BK248; clear HB; have BK247 := n0_; have BK248 := n1_; have HB := n2_; clear n0_ n1_ n2_; (try clear hb); (try clear hb2); (try clear hk); (try clear hi)))
   go_meet
   case rel => exact ⟨_, (true), (by first | rfl | (simp; done) | (simp [*]; done) | exact congrArg Value.bool (nil_ne _) | exact congrArg Value.bool (nil_eq _) | exact congrArg Value.bool (nil_ne' _)), H', ⟨by first | omega | exact Nat.le_refl _⟩, ⟨by (with_reducible repeat (first | refine qAg ?_ _ | refine qAh ?_ | refine blk_alloc ?_ _)); exact BK247.out⟩, ⟨by (with_reducible repeat (first | refine qAg ?_ _ | refine qAh ?_ | refine blk_alloc ?_ _)); exact BK248.out⟩, ⟨by repeat (first | (with_reducible first | exact HB.out | apply qAd | apply qAc | apply qAe | refine qAf ?_ GE247.out | refine qAf ?_ GE248.out) | exact HB.out)⟩⟩
  ·replace c8 := Bool.eq_false_iff.mpr c8
   subst c8
   have H1 : ((hogsheadlaw0_GreatValue.f k a1_0 a1_1 a1_2 a1_3 l1_4 l1_5 60).bind fun t250 => (if t250 = true then (hogsheadlaw15_ValueLays.j0 k a2 true a0_0 a0_1 a0_2 a0_3 l0_4 l0_5 a1_0 a1_1 a1_2 a1_3 l1_4 l1_5) else (hogsheadlaw15_ValueLays.j0 k a2 (decide ((a2.size : Int) > 100)) a0_0 a0_1 a0_2 a0_3 l0_4 l0_5 a1_0 a1_1 a1_2 a1_3 l1_4 l1_5))) = some r := by rw [if_neg (show ¬ (false = true) by decide)] at H; exact H
   clear H
   have H := H1
   clear H1
   replace H := Option.bind_eq_some_iff.mp H
   obtain ⟨t250, A120, H⟩ := H
   replace H : (if t250 = true then (hogsheadlaw15_ValueLays.j0 k a2 true a0_0 a0_1 a0_2 a0_3 l0_4 l0_5 a1_0 a1_1 a1_2 a1_3 l1_4 l1_5) else (hogsheadlaw15_ValueLays.j0 k a2 (decide ((a2.size : Int) > 100)) a0_0 a0_1 a0_2 a0_3 l0_4 l0_5 a1_0 a1_1 a1_2 a1_3 l1_4 l1_5)) = some r := H
   have A12 := Aside0.mk A120
   clear A120
   by_cases c13 : t250 = true
   ·subst c13
    have H1 : (hogsheadlaw15_ValueLays.j0 k a2 true a0_0 a0_1 a0_2 a0_3 l0_4 l0_5 a1_0 a1_1 a1_2 a1_3 l1_4 l1_5) = some r := by rw [if_pos rfl] at H; exact H
    clear H
    have H := H1
    clear H1
    have H' := Aside0.mk H
    clear H
    have hnb14 := NB247_248.out
    have hnc14 := NB248_247.out
    have hcz15_0 : w6.cell? ⟨gb247, 0, none⟩ = some (.int .i64 a0_0) := (qAa BK247.out 0).trans rfl
    have hcz15_1 : w6.cell? ⟨gb247, 1, none⟩ = some (.bool a0_1) := (qAa BK247.out 1).trans rfl
    have hcz15_2 : w6.cell? ⟨gb247, 2, none⟩ = some (.int .i64 a0_2) := (qAa BK247.out 2).trans rfl
    have hcz15_3 : w6.cell? ⟨gb247, 3, none⟩ = some (.string a0_3) := (qAa BK247.out 3).trans rfl
    have hcz15_4 : w6.cell? ⟨gb247, 4, none⟩ = some (.slice A0_4 l0_4.length c0_4) := (qAa BK247.out 4).trans rfl
    have hcz15_5 : w6.cell? ⟨gb247, 5, none⟩ = some (.slice A0_5 l0_5.length c0_5) := (qAa BK247.out 5).trans rfl
    have hfz15_0 := qAb BK247.out 0
    have hfz15_1 := qAb BK247.out 1
    have hfz15_2 := qAb BK247.out 2
    have hfz15_3 := qAb BK247.out 3
    have hfz15_4 := qAb BK247.out 4
    have hfz15_5 := qAb BK247.out 5
    go_wp2_with (first | ((with_reducible refine qAp (f := 14) rfl ?_); refine goesL_ (some 16) rfl rfl Tryd.func14 (by kernel_rfl) rfl #[.agg #[.int .i64 a0_0, .bool a0_1, .int .i64 a0_2, .string a0_3, .slice A0_4 l0_4.length c0_4, .slice A0_5 l0_5.length c0_5], .int .i64 60] rfl (by (try simp only [List.map_toArray, List.map_cons, List.map_nil]); first | done | rfl | (simp only [List.length_drop, List.length_take]; rfl)) ?_; (with_reducible refine (hogsheadlaw0_GreatValue.calls k a0_0 a0_1 a0_2 a0_3 _ _ l0_4 _ _ l0_5 60 false _ ?side1 ?side2 ?side3 ?side4 A7.out).mono ?_); (case side1 => repeat (first | exact (Kd.C_below HR0_4.out HB.out) | (with_reducible refine Kd.C_alloc ?_ _) | (with_reducible refine Kd.C_drewN ?_ _) | (with_reducible refine Kd.C_drew ?_))); (case side2 => exact HC0_4.out); (case side3 => repeat (first | exact (Kd.C_below HR0_5.out HB.out) | (with_reducible refine Kd.C_alloc ?_ _) | (with_reducible refine Kd.C_drewN ?_ _) | (with_reducible refine Kd.C_drew ?_))); (case side4 => exact HC0_5.out); rintro e w16 ⟨rfl, hb⟩; refine ⟨_, rfl, ?_⟩; have n0_ := Aside0.mk (qAi (g := gb247) (o := .cells #[.int .i64 a0_0, .bool a0_1, .int .i64 a0_2, .string a0_3, .slice A0_4 l0_4.length c0_4, .slice A0_5 l0_5.length c0_5] 25 (0, 0)) (by (with_reducible repeat (first | refine qAg ?_ _ | refine qAh ?_ | refine blk_alloc ?_ _)); exact BK247.out) hb); have n1_ := Aside0.mk (qAi (g := gb248) (o := .cells #[.int .i64 a1_0, .bool a1_1, .int .i64 a1_2, .string a1_3, .slice A1_4 l1_4.length c1_4, .slice A1_5 l1_5.length c1_5] 25 (0, 0)) (by (with_reducible repeat (first | refine qAg ?_ _ | refine qAh ?_ | refine blk_alloc ?_ _)); exact BK248.out) hb); have n2_ := Aside0.mk (qAj (by repeat (first | (with_reducible first | exact HB.out | apply qAd | apply qAc | apply qAe | refine qAf ?_ GE247.out | refine qAf ?_ GE248.out) | exact HB.out)) hb); clear BK247; clear BK248; clear HB; have BK247 := n0_; have BK248 := n1_; have HB := n2_; clear n0_ n1_ n2_; (try clear hb); (try clear hb2); (try clear hk); (try clear hi); have hcz17_0 : w16.cell? ⟨gb248, 0, none⟩ = some (.int .i64 a1_0) := (qAa BK248.out 0).trans rfl; have hcz17_1 : w16.cell? ⟨gb248, 1, none⟩ = some (.bool a1_1) := (qAa BK248.out 1).trans rfl; have hcz17_2 : w16.cell? ⟨gb248, 2, none⟩ = some (.int .i64 a1_2) := (qAa BK248.out 2).trans rfl; have hcz17_3 : w16.cell? ⟨gb248, 3, none⟩ = some (.string a1_3) := (qAa BK248.out 3).trans rfl; have hcz17_4 : w16.cell? ⟨gb248, 4, none⟩ = some (.slice A1_4 l1_4.length c1_4) := (qAa BK248.out 4).trans rfl; have hcz17_5 : w16.cell? ⟨gb248, 5, none⟩ = some (.slice A1_5 l1_5.length c1_5) := (qAa BK248.out 5).trans rfl; have hfz17_0 := qAb BK248.out 0; have hfz17_1 := qAb BK248.out 1; have hfz17_2 := qAb BK248.out 2; have hfz17_3 := qAb BK248.out 3; have hfz17_4 := qAb BK248.out 4; have hfz17_5 := qAb BK248.out 5) | (go_at_call 14; (with_reducible refine (hogsheadlaw0_GreatValue.calls k a1_0 a1_1 a1_2 a1_3 _ _ l1_4 _ _ l1_5 60 true _ ?side1 ?side2 ?side3 ?side4 A12.out).mono ?_); (case side1 => repeat (first | exact (Kd.C_below HR1_4.out HB.out) | (with_reducible refine Kd.C_alloc ?_ _) | (with_reducible refine Kd.C_drewN ?_ _) | (with_reducible refine Kd.C_drew ?_))); (case side2 => exact HC1_4.out); (case side3 => repeat (first | exact (Kd.C_below HR1_5.out HB.out) | (with_reducible refine Kd.C_alloc ?_ _) | (with_reducible refine Kd.C_drewN ?_ _) | (with_reducible refine Kd.C_drew ?_))); (case side4 => exact HC1_5.out); rintro e w18 ⟨rfl, hb⟩; have n0_ := Aside0.mk (qAi (g := gb247) (o := .cells #[.int .i64 a0_0, .bool a0_1, .int .i64 a0_2, .string a0_3, .slice A0_4 l0_4.length c0_4, .slice A0_5 l0_5.length c0_5] 25 (0, 0)) (by (with_reducible repeat (first | refine qAg ?_ _ | refine qAh ?_ | refine blk_alloc ?_ _)); exact BK247.out) hb); have n1_ := Aside0.mk (qAi (g := gb248) (o := .cells #[.int .i64 a1_0, .bool a1_1, .int .i64 a1_2, .string a1_3, .slice A1_4 l1_4.length c1_4, .slice A1_5 l1_5.length c1_5] 25 (0, 0)) (by (with_reducible repeat (first | refine qAg ?_ _ | refine qAh ?_ | refine blk_alloc ?_ _)); exact BK248.out) hb); have n2_ := Aside0.mk (qAj (by repeat (first | (with_reducible first | exact HB.out | apply qAd | apply qAc | apply qAe | refine qAf ?_ GE247.out | refine qAf ?_ GE248.out) | exact HB.out)) hb); clear BK247; clear BK248; clear HB; have BK247 := n0_; have BK248 := n1_; have HB := n2_; clear n0_ n1_ n2_; (try clear hb); (try clear hb2); (try clear hk); (try clear hi)))
    go_meet
    case rel => exact ⟨_, (true), (by first | rfl | (simp; done) | (simp [*]; done) | exact congrArg Value.bool (nil_ne _) | exact congrArg Value.bool (nil_eq _) | exact congrArg Value.bool (nil_ne' _)), H', ⟨by first | omega | exact Nat.le_refl _⟩, ⟨by (with_reducible repeat (first | refine qAg ?_ _ | refine qAh ?_ | refine blk_alloc ?_ _)); exact BK247.out⟩, ⟨by (with_reducible repeat (first | refine qAg ?_ _ | refine qAh ?_ | refine blk_alloc ?_ _)); exact BK248.out⟩, ⟨by repeat (first | (with_reducible first | exact HB.out | apply qAd | apply qAc | apply qAe | refine qAf ?_ GE247.out | refine qAf ?_ GE248.out) | exact HB.out)⟩⟩
   ·replace c13 := Bool.eq_false_iff.mpr c13
    subst c13
    have H1 : (hogsheadlaw15_ValueLays.j0 k a2 (decide ((a2.size : Int) > 100)) a0_0 a0_1 a0_2 a0_3 l0_4 l0_5 a1_0 a1_1 a1_2 a1_3 l1_4 l1_5) = some r := by rw [if_neg (show ¬ (false = true) by decide)] at H; exact H
    clear H
    have H := H1
    clear H1
    have H' := Aside0.mk H
    clear H
    have hnb19 := NB247_248.out
    have hnc19 := NB248_247.out
    have hcz20_0 : w6.cell? ⟨gb247, 0, none⟩ = some (.int .i64 a0_0) := (qAa BK247.out 0).trans rfl
    have hcz20_1 : w6.cell? ⟨gb247, 1, none⟩ = some (.bool a0_1) := (qAa BK247.out 1).trans rfl
    have hcz20_2 : w6.cell? ⟨gb247, 2, none⟩ = some (.int .i64 a0_2) := (qAa BK247.out 2).trans rfl
    have hcz20_3 : w6.cell? ⟨gb247, 3, none⟩ = some (.string a0_3) := (qAa BK247.out 3).trans rfl
    have hcz20_4 : w6.cell? ⟨gb247, 4, none⟩ = some (.slice A0_4 l0_4.length c0_4) := (qAa BK247.out 4).trans rfl
    have hcz20_5 : w6.cell? ⟨gb247, 5, none⟩ = some (.slice A0_5 l0_5.length c0_5) := (qAa BK247.out 5).trans rfl
    have hfz20_0 := qAb BK247.out 0
    have hfz20_1 := qAb BK247.out 1
    have hfz20_2 := qAb BK247.out 2
    have hfz20_3 := qAb BK247.out 3
    have hfz20_4 := qAb BK247.out 4
    have hfz20_5 := qAb BK247.out 5
    go_wp2_with (first | ((with_reducible refine qAp (f := 14) rfl ?_); refine goesL_ (some 16) rfl rfl Tryd.func14 (by kernel_rfl) rfl #[.agg #[.int .i64 a0_0, .bool a0_1, .int .i64 a0_2, .string a0_3, .slice A0_4 l0_4.length c0_4, .slice A0_5 l0_5.length c0_5], .int .i64 60] rfl (by (try simp only [List.map_toArray, List.map_cons, List.map_nil]); first | done | rfl | (simp only [List.length_drop, List.length_take]; rfl)) ?_; (with_reducible refine (hogsheadlaw0_GreatValue.calls k a0_0 a0_1 a0_2 a0_3 _ _ l0_4 _ _ l0_5 60 false _ ?side1 ?side2 ?side3 ?side4 A7.out).mono ?_); (case side1 => repeat (first | exact (Kd.C_below HR0_4.out HB.out) | (with_reducible refine Kd.C_alloc ?_ _) | (with_reducible refine Kd.C_drewN ?_ _) | (with_reducible refine Kd.C_drew ?_))); (case side2 => exact HC0_4.out); (case side3 => repeat (first | exact (Kd.C_below HR0_5.out HB.out) | (with_reducible refine Kd.C_alloc ?_ _) | (with_reducible refine Kd.C_drewN ?_ _) | (with_reducible refine Kd.C_drew ?_))); (case side4 => exact HC0_5.out); rintro e w21 ⟨rfl, hb⟩; refine ⟨_, rfl, ?_⟩; have n0_ := Aside0.mk (qAi (g := gb247) (o := .cells #[.int .i64 a0_0, .bool a0_1, .int .i64 a0_2, .string a0_3, .slice A0_4 l0_4.length c0_4, .slice A0_5 l0_5.length c0_5] 25 (0, 0)) (by (with_reducible repeat (first | refine qAg ?_ _ | refine qAh ?_ | refine blk_alloc ?_ _)); exact BK247.out) hb); have n1_ := Aside0.mk (qAi (g := gb248) (o := .cells #[.int .i64 a1_0, .bool a1_1, .int .i64 a1_2, .string a1_3, .slice A1_4 l1_4.length c1_4, .slice A1_5 l1_5.length c1_5] 25 (0, 0)) (by (with_reducible repeat (first | refine qAg ?_ _ | refine qAh ?_ | refine blk_alloc ?_ _)); exact BK248.out) hb); have n2_ := Aside0.mk (qAj (by repeat (first | (with_reducible first | exact HB.out | apply qAd | apply qAc | apply qAe | refine qAf ?_ GE247.out | refine qAf ?_ GE248.out) | exact HB.out)) hb); clear BK247; clear BK248; clear HB; have BK247 := n0_; have BK248 := n1_; have HB := n2_; clear n0_ n1_ n2_; (try clear hb); (try clear hb2); (try clear hk); (try clear hi); have hcz22_0 : w21.cell? ⟨gb248, 0, none⟩ = some (.int .i64 a1_0) := (qAa BK248.out 0).trans rfl; have hcz22_1 : w21.cell? ⟨gb248, 1, none⟩ = some (.bool a1_1) := (qAa BK248.out 1).trans rfl; have hcz22_2 : w21.cell? ⟨gb248, 2, none⟩ = some (.int .i64 a1_2) := (qAa BK248.out 2).trans rfl; have hcz22_3 : w21.cell? ⟨gb248, 3, none⟩ = some (.string a1_3) := (qAa BK248.out 3).trans rfl; have hcz22_4 : w21.cell? ⟨gb248, 4, none⟩ = some (.slice A1_4 l1_4.length c1_4) := (qAa BK248.out 4).trans rfl; have hcz22_5 : w21.cell? ⟨gb248, 5, none⟩ = some (.slice A1_5 l1_5.length c1_5) := (qAa BK248.out 5).trans rfl; have hfz22_0 := qAb BK248.out 0; have hfz22_1 := qAb BK248.out 1; have hfz22_2 := qAb BK248.out 2; have hfz22_3 := qAb BK248.out 3; have hfz22_4 := qAb BK248.out 4; have hfz22_5 := qAb BK248.out 5) | (go_at_call 14; (with_reducible refine (hogsheadlaw0_GreatValue.calls k a1_0 a1_1 a1_2 a1_3 _ _ l1_4 _ _ l1_5 60 false _ ?side1 ?side2 ?side3 ?side4 A12.out).mono ?_); (case side1 => repeat (first | exact (Kd.C_below HR1_4.out HB.out) | (with_reducible refine Kd.C_alloc ?_ _) | (with_reducible refine Kd.C_drewN ?_ _) | (with_reducible refine Kd.C_drew ?_))); (case side2 => exact HC1_4.out); (case side3 => repeat (first | exact (Kd.C_below HR1_5.out HB.out) | (with_reducible refine Kd.C_alloc ?_ _) | (with_reducible refine Kd.C_drewN ?_ _) | (with_reducible refine Kd.C_drew ?_))); (case side4 => exact HC1_5.out); rintro e w23 ⟨rfl, hb⟩; have n0_ := Aside0.mk (qAi (g := gb247) (o := .cells #[.int .i64 a0_0, .bool a0_1, .int .i64 a0_2, .string a0_3, .slice A0_4 l0_4.length c0_4, .slice A0_5 l0_5.length c0_5] 25 (0, 0)) (by (with_reducible repeat (first | refine qAg ?_ _ | refine qAh ?_ | refine blk_alloc ?_ _)); exact BK247.out) hb); have n1_ := Aside0.mk (qAi (g := gb248) (o := .cells #[.int .i64 a1_0, .bool a1_1, .int .i64 a1_2, .string a1_3, .slice A1_4 l1_4.length c1_4, .slice A1_5 l1_5.length c1_5] 25 (0, 0)) (by (with_reducible repeat (first | refine qAg ?_ _ | refine qAh ?_ | refine blk_alloc ?_ _)); exact BK248.out) hb); have n2_ := Aside0.mk (qAj (by repeat (first | (with_reducible first | exact HB.out | apply qAd | apply qAc | apply qAe | refine qAf ?_ GE247.out | refine qAf ?_ GE248.out) | exact HB.out)) hb); clear BK247; clear BK248; clear HB; have BK247 := n0_; have BK248 := n1_; have HB := n2_; clear n0_ n1_ n2_; (try clear hb); (try clear hb2); (try clear hk); (try clear hi)))
    go_meet
    case rel => exact ⟨_, (decide ((a2.size : Int) > 100)), (by first | rfl | (simp; done) | (simp [*]; done) | exact congrArg Value.bool (nil_ne _) | exact congrArg Value.bool (nil_eq _) | exact congrArg Value.bool (nil_ne' _)), H', ⟨by first | omega | exact Nat.le_refl _⟩, ⟨by (with_reducible repeat (first | refine qAg ?_ _ | refine qAh ?_ | refine blk_alloc ?_ _)); exact BK247.out⟩, ⟨by (with_reducible repeat (first | refine qAg ?_ _ | refine qAh ?_ | refine blk_alloc ?_ _)); exact BK248.out⟩, ⟨by repeat (first | (with_reducible first | exact HB.out | apply qAd | apply qAc | apply qAe | refine qAf ?_ GE247.out | refine qAf ?_ GE248.out) | exact HB.out)⟩⟩
 case rest =>
  clear HC4
  try clear c1
  try clear p2
  try clear c3
  try clear c8
  try clear c9
  try clear c13
  try clear c14
  try clear c19
  try clear hcz10_0
  try clear hcz10_1
  try clear hcz10_2
  try clear hcz10_3
  try clear hcz10_4
  try clear hcz10_5
  try clear hcz15_0
  try clear hcz15_1
  try clear hcz15_2
  try clear hcz15_3
  try clear hcz15_4
  try clear hcz15_5
  try clear hcz17_0
  try clear hcz17_1
  try clear hcz17_2
  try clear hcz17_3
  try clear hcz17_4
  try clear hcz17_5
  try clear hcz20_0
  try clear hcz20_1
  try clear hcz20_2
  try clear hcz20_3
  try clear hcz20_4
  try clear hcz20_5
  try clear hcz22_0
  try clear hcz22_1
  try clear hcz22_2
  try clear hcz22_3
  try clear hcz22_4
  try clear hcz22_5
  try clear hfz10_0
  try clear hfz10_1
  try clear hfz10_2
  try clear hfz10_3
  try clear hfz10_4
  try clear hfz10_5
  try clear hfz15_0
  try clear hfz15_1
  try clear hfz15_2
  try clear hfz15_3
  try clear hfz15_4
  try clear hfz15_5
  try clear hfz17_0
  try clear hfz17_1
  try clear hfz17_2
  try clear hfz17_3
  try clear hfz17_4
  try clear hfz17_5
  try clear hfz20_0
  try clear hfz20_1
  try clear hfz20_2
  try clear hfz20_3
  try clear hfz20_4
  try clear hfz20_5
  try clear hfz22_0
  try clear hfz22_1
  try clear hfz22_2
  try clear hfz22_3
  try clear hfz22_4
  try clear hfz22_5
  obtain ⟨kq, x25_3, rfl, HA, HJ3, BK247, BK248, HB⟩ := hcut
  cases kq with
  | zero => exact absurd HA.out (by simp [hogsheadlaw15_ValueLays.j0])
  | succ kj3 =>
   have H := HA.out
   clear HA
   simp only [hogsheadlaw15_ValueLays.j0] at H
   by_cases c24 : x25_3 = true
   ·subst c24
    have H1 : ((hogsheadlaw15_awake.f kj3).bind fun t251 => (some t251)) = some r := by rw [if_pos rfl] at H; exact H
    clear H
    have H := H1
    clear H1
    replace H := Option.bind_eq_some_iff.mp H
    obtain ⟨t251, A250, H⟩ := H
    replace H : (some t251) = some r := H
    have A25 := Aside0.mk A250
    clear A250
    obtain rfl := Option.some.inj H
    go_wp2_with (first | ((with_reducible refine qAp (f := 15) rfl ?_); refine goesL_ (some 26) rfl rfl Tryd.func15 (by kernel_rfl) rfl #[] rfl (by (try simp only [List.map_toArray, List.map_cons, List.map_nil]); first | done | rfl | (simp only [List.length_drop, List.length_take]; rfl)) ?_; (with_reducible refine (hogsheadlaw15_awake.calls kj3  t251 _ ?side1 A25.out).mono ?_); (case side1 => exact ⟨Tabs.below hT.out (by repeat (first | (with_reducible first | exact HB.out | apply qAd | apply qAc | apply qAe | refine qAf ?_ GE247.out | refine qAf ?_ GE248.out) | exact HB.out))⟩); rintro e w26 ⟨rfl, hb⟩; refine ⟨_, rfl, ?_⟩; have n0_ := Aside0.mk (qAi (g := gb247) (o := .cells #[.int .i64 a0_0, .bool a0_1, .int .i64 a0_2, .string a0_3, .slice A0_4 l0_4.length c0_4, .slice A0_5 l0_5.length c0_5] 25 (0, 0)) (by (with_reducible repeat (first | refine qAg ?_ _ | refine qAh ?_ | refine blk_alloc ?_ _)); exact BK247.out) hb); have n1_ := Aside0.mk (qAi (g := gb248) (o := .cells #[.int .i64 a1_0, .bool a1_1, .int .i64 a1_2, .string a1_3, .slice A1_4 l1_4.length c1_4, .slice A1_5 l1_5.length c1_5] 25 (0, 0)) (by (with_reducible repeat (first | refine qAg ?_ _ | refine qAh ?_ | refine blk_alloc ?_ _)); exact BK248.out) hb); have n2_ := Aside0.mk (qAj (by repeat (first | (with_reducible first | exact HB.out | apply qAd | apply qAc | apply qAe | refine qAf ?_ GE247.out | refine qAf ?_ GE248.out) | exact HB.out)) hb); clear BK247; clear BK248; clear HB; have BK247 := n0_; have BK248 := n1_; have HB := n2_; clear n0_ n1_ n2_; (try clear hb); (try clear hb2); (try clear hk); (try clear hi)))
    go_ret
    exact ⟨by first | rfl | (simp [qAn, qAm] <;> rfl) | (simp [*, qAn, qAm] <;> rfl), by repeat (first | (with_reducible first | exact HB.out | apply qAd | apply qAc | apply qAe | refine qAf ?_ GE247.out | refine qAf ?_ GE248.out) | exact HB.out)⟩
   ·replace c24 := Bool.eq_false_iff.mpr c24
    subst c24
    have H1 : ((value_Lay.f kj3 a0_0 a0_1 a0_2 a0_3 l0_4 l0_5).bind fun bt252 => ((hogsheadref15_Lay.f kj3 a0_0 a0_1 a0_2 a0_3 l0_4 l0_5).bind fun bt254 => ((value_Get.f kj3 a0_0 a0_1 a0_2 a0_3 l0_4 l0_5 a2).bind fun bt256 => ((hogsheadref15_Get.f kj3 a0_0 a0_1 a0_2 a0_3 l0_4 l0_5 a2).bind fun bt268 => (if bt252.1.toList = bt254.1.toList then ((hogsheadlaw0_Num.f bt252.2).bind fun t280 => (if t280 = bt254.2 then ((value_May.f a0_0 a0_1 a0_2 a0_3 l0_4 l0_5).bind fun t281 => ((hogsheadref15_May.f kj3 a0_0 a0_1 a0_2 a0_3 l0_4 l0_5).bind fun t282 => (if (t281 == t282) = true then ((value_Same.f a0_0 a0_1 a0_2 a0_3 l0_4 l0_5 a1_0 a1_1 a1_2 a1_3 l1_4 l1_5).bind fun t283 => ((hogsheadref15_Same.f kj3 a0_0 a0_1 a0_2 a0_3 l0_4 l0_5 a1_0 a1_1 a1_2 a1_3 l1_4 l1_5).bind fun t284 => (if (t283 == t284) = true then ((hogsheadlaw0_SameValue.f kj3 bt256.1 bt256.2.1 bt256.2.2.1 bt256.2.2.2.1 bt256.2.2.2.2.1 bt256.2.2.2.2.2.1 bt268.1 bt268.2.1 bt268.2.2.1 bt268.2.2.2.1 bt268.2.2.2.2.1 bt268.2.2.2.2.2.1 100).bind fun t285 => (if t285 = true then (if (bt256.2.2.2.2.2.2 == bt268.2.2.2.2.2.2) = true then ((value_Quote.f kj3 a2).bind fun t286 => ((hogsheadref15_Quote.f kj3 a2).bind fun t287 => (if t286.toList = t287.toList then ((hogsheadlaw15_awake.f kj3).bind fun t288 => (some t288)) else (some false)))) else (some false)) else (some false))) else (some false)))) else (some false)))) else (some false))) else (some false)))))) = some r := by rw [if_neg (show ¬ (false = true) by decide)] at H; exact H
    clear H
    have H := H1
    clear H1
    replace H := Option.bind_eq_some_iff.mp H
    obtain ⟨⟨t252, t253⟩, A270, H⟩ := H
    replace H : ((hogsheadref15_Lay.f kj3 a0_0 a0_1 a0_2 a0_3 l0_4 l0_5).bind fun bt254 => ((value_Get.f kj3 a0_0 a0_1 a0_2 a0_3 l0_4 l0_5 a2).bind fun bt256 => ((hogsheadref15_Get.f kj3 a0_0 a0_1 a0_2 a0_3 l0_4 l0_5 a2).bind fun bt268 => (if t252.toList = bt254.1.toList then ((hogsheadlaw0_Num.f t253).bind fun t280 => (if t280 = bt254.2 then ((value_May.f a0_0 a0_1 a0_2 a0_3 l0_4 l0_5).bind fun t281 => ((hogsheadref15_May.f kj3 a0_0 a0_1 a0_2 a0_3 l0_4 l0_5).bind fun t282 => (if (t281 == t282) = true then ((value_Same.f a0_0 a0_1 a0_2 a0_3 l0_4 l0_5 a1_0 a1_1 a1_2 a1_3 l1_4 l1_5).bind fun t283 => ((hogsheadref15_Same.f kj3 a0_0 a0_1 a0_2 a0_3 l0_4 l0_5 a1_0 a1_1 a1_2 a1_3 l1_4 l1_5).bind fun t284 => (if (t283 == t284) = true then ((hogsheadlaw0_SameValue.f kj3 bt256.1 bt256.2.1 bt256.2.2.1 bt256.2.2.2.1 bt256.2.2.2.2.1 bt256.2.2.2.2.2.1 bt268.1 bt268.2.1 bt268.2.2.1 bt268.2.2.2.1 bt268.2.2.2.2.1 bt268.2.2.2.2.2.1 100).bind fun t285 => (if t285 = true then (if (bt256.2.2.2.2.2.2 == bt268.2.2.2.2.2.2) = true then ((value_Quote.f kj3 a2).bind fun t286 => ((hogsheadref15_Quote.f kj3 a2).bind fun t287 => (if t286.toList = t287.toList then ((hogsheadlaw15_awake.f kj3).bind fun t288 => (some t288)) else (some false)))) else (some false)) else (some false))) else (some false)))) else (some false)))) else (some false))) else (some false))))) = some r := H
    have A27 := Aside0.mk A270
    clear A270
    replace H := Option.bind_eq_some_iff.mp H
    obtain ⟨⟨t254, t255⟩, A280, H⟩ := H
    replace H : ((value_Get.f kj3 a0_0 a0_1 a0_2 a0_3 l0_4 l0_5 a2).bind fun bt256 => ((hogsheadref15_Get.f kj3 a0_0 a0_1 a0_2 a0_3 l0_4 l0_5 a2).bind fun bt268 => (if t252.toList = t254.toList then ((hogsheadlaw0_Num.f t253).bind fun t280 => (if t280 = t255 then ((value_May.f a0_0 a0_1 a0_2 a0_3 l0_4 l0_5).bind fun t281 => ((hogsheadref15_May.f kj3 a0_0 a0_1 a0_2 a0_3 l0_4 l0_5).bind fun t282 => (if (t281 == t282) = true then ((value_Same.f a0_0 a0_1 a0_2 a0_3 l0_4 l0_5 a1_0 a1_1 a1_2 a1_3 l1_4 l1_5).bind fun t283 => ((hogsheadref15_Same.f kj3 a0_0 a0_1 a0_2 a0_3 l0_4 l0_5 a1_0 a1_1 a1_2 a1_3 l1_4 l1_5).bind fun t284 => (if (t283 == t284) = true then ((hogsheadlaw0_SameValue.f kj3 bt256.1 bt256.2.1 bt256.2.2.1 bt256.2.2.2.1 bt256.2.2.2.2.1 bt256.2.2.2.2.2.1 bt268.1 bt268.2.1 bt268.2.2.1 bt268.2.2.2.1 bt268.2.2.2.2.1 bt268.2.2.2.2.2.1 100).bind fun t285 => (if t285 = true then (if (bt256.2.2.2.2.2.2 == bt268.2.2.2.2.2.2) = true then ((value_Quote.f kj3 a2).bind fun t286 => ((hogsheadref15_Quote.f kj3 a2).bind fun t287 => (if t286.toList = t287.toList then ((hogsheadlaw15_awake.f kj3).bind fun t288 => (some t288)) else (some false)))) else (some false)) else (some false))) else (some false)))) else (some false)))) else (some false))) else (some false)))) = some r := H
    have A28 := Aside0.mk A280
    clear A280
    replace H := Option.bind_eq_some_iff.mp H
    obtain ⟨⟨t256, t257, t258, t259, t260, t263, t266⟩, A290, H⟩ := H
    replace H : ((hogsheadref15_Get.f kj3 a0_0 a0_1 a0_2 a0_3 l0_4 l0_5 a2).bind fun bt268 => (if t252.toList = t254.toList then ((hogsheadlaw0_Num.f t253).bind fun t280 => (if t280 = t255 then ((value_May.f a0_0 a0_1 a0_2 a0_3 l0_4 l0_5).bind fun t281 => ((hogsheadref15_May.f kj3 a0_0 a0_1 a0_2 a0_3 l0_4 l0_5).bind fun t282 => (if (t281 == t282) = true then ((value_Same.f a0_0 a0_1 a0_2 a0_3 l0_4 l0_5 a1_0 a1_1 a1_2 a1_3 l1_4 l1_5).bind fun t283 => ((hogsheadref15_Same.f kj3 a0_0 a0_1 a0_2 a0_3 l0_4 l0_5 a1_0 a1_1 a1_2 a1_3 l1_4 l1_5).bind fun t284 => (if (t283 == t284) = true then ((hogsheadlaw0_SameValue.f kj3 t256 t257 t258 t259 t260 t263 bt268.1 bt268.2.1 bt268.2.2.1 bt268.2.2.2.1 bt268.2.2.2.2.1 bt268.2.2.2.2.2.1 100).bind fun t285 => (if t285 = true then (if (t266 == bt268.2.2.2.2.2.2) = true then ((value_Quote.f kj3 a2).bind fun t286 => ((hogsheadref15_Quote.f kj3 a2).bind fun t287 => (if t286.toList = t287.toList then ((hogsheadlaw15_awake.f kj3).bind fun t288 => (some t288)) else (some false)))) else (some false)) else (some false))) else (some false)))) else (some false)))) else (some false))) else (some false))) = some r := H
    have A29 := Aside0.mk A290
    clear A290
    replace H := Option.bind_eq_some_iff.mp H
    obtain ⟨⟨t268, t269, t270, t271, t272, t275, t278⟩, A300, H⟩ := H
    replace H : (if t252.toList = t254.toList then ((hogsheadlaw0_Num.f t253).bind fun t280 => (if t280 = t255 then ((value_May.f a0_0 a0_1 a0_2 a0_3 l0_4 l0_5).bind fun t281 => ((hogsheadref15_May.f kj3 a0_0 a0_1 a0_2 a0_3 l0_4 l0_5).bind fun t282 => (if (t281 == t282) = true then ((value_Same.f a0_0 a0_1 a0_2 a0_3 l0_4 l0_5 a1_0 a1_1 a1_2 a1_3 l1_4 l1_5).bind fun t283 => ((hogsheadref15_Same.f kj3 a0_0 a0_1 a0_2 a0_3 l0_4 l0_5 a1_0 a1_1 a1_2 a1_3 l1_4 l1_5).bind fun t284 => (if (t283 == t284) = true then ((hogsheadlaw0_SameValue.f kj3 t256 t257 t258 t259 t260 t263 t268 t269 t270 t271 t272 t275 100).bind fun t285 => (if t285 = true then (if (t266 == t278) = true then ((value_Quote.f kj3 a2).bind fun t286 => ((hogsheadref15_Quote.f kj3 a2).bind fun t287 => (if t286.toList = t287.toList then ((hogsheadlaw15_awake.f kj3).bind fun t288 => (some t288)) else (some false)))) else (some false)) else (some false))) else (some false)))) else (some false)))) else (some false))) else (some false)) = some r := H
    have A30 := Aside0.mk A300
    clear A300
    by_cases c31 : t252.toList = t254.toList
    ·rw [if_pos c31] at H
     have c31b0 : (t252.toList == t254.toList) = true := beq_iff_eq.mpr c31
     have c31b1 : (t252.toList != t254.toList) = false := bne_eq_false_iff_eq.mpr c31
     clear c31
     replace H := Option.bind_eq_some_iff.mp H
     obtain ⟨t280, A320, H⟩ := H
     replace H : (if t280 = t255 then ((value_May.f a0_0 a0_1 a0_2 a0_3 l0_4 l0_5).bind fun t281 => ((hogsheadref15_May.f kj3 a0_0 a0_1 a0_2 a0_3 l0_4 l0_5).bind fun t282 => (if (t281 == t282) = true then ((value_Same.f a0_0 a0_1 a0_2 a0_3 l0_4 l0_5 a1_0 a1_1 a1_2 a1_3 l1_4 l1_5).bind fun t283 => ((hogsheadref15_Same.f kj3 a0_0 a0_1 a0_2 a0_3 l0_4 l0_5 a1_0 a1_1 a1_2 a1_3 l1_4 l1_5).bind fun t284 => (if (t283 == t284) = true then ((hogsheadlaw0_SameValue.f kj3 t256 t257 t258 t259 t260 t263 t268 t269 t270 t271 t272 t275 100).bind fun t285 => (if t285 = true then (if (t266 == t278) = true then ((value_Quote.f kj3 a2).bind fun t286 => ((hogsheadref15_Quote.f kj3 a2).bind fun t287 => (if t286.toList = t287.toList then ((hogsheadlaw15_awake.f kj3).bind fun t288 => (some t288)) else (some false)))) else (some false)) else (some false))) else (some false)))) else (some false)))) else (some false)) = some r := H
     have A32 := Aside0.mk A320
     clear A320
     by_cases c33 : t280 = t255
     ·rw [if_pos c33] at H
      have c33b0 : (t280 == t255) = true := beq_iff_eq.mpr c33
      have c33b1 : (t280 != t255) = false := bne_eq_false_iff_eq.mpr c33
      clear c33
      replace H := Option.bind_eq_some_iff.mp H
      obtain ⟨t281, A340, H⟩ := H
      replace H : ((hogsheadref15_May.f kj3 a0_0 a0_1 a0_2 a0_3 l0_4 l0_5).bind fun t282 => (if (t281 == t282) = true then ((value_Same.f a0_0 a0_1 a0_2 a0_3 l0_4 l0_5 a1_0 a1_1 a1_2 a1_3 l1_4 l1_5).bind fun t283 => ((hogsheadref15_Same.f kj3 a0_0 a0_1 a0_2 a0_3 l0_4 l0_5 a1_0 a1_1 a1_2 a1_3 l1_4 l1_5).bind fun t284 => (if (t283 == t284) = true then ((hogsheadlaw0_SameValue.f kj3 t256 t257 t258 t259 t260 t263 t268 t269 t270 t271 t272 t275 100).bind fun t285 => (if t285 = true then (if (t266 == t278) = true then ((value_Quote.f kj3 a2).bind fun t286 => ((hogsheadref15_Quote.f kj3 a2).bind fun t287 => (if t286.toList = t287.toList then ((hogsheadlaw15_awake.f kj3).bind fun t288 => (some t288)) else (some false)))) else (some false)) else (some false))) else (some false)))) else (some false))) = some r := H
      have A34 := Aside0.mk A340
      clear A340
      replace H := Option.bind_eq_some_iff.mp H
      obtain ⟨t282, A350, H⟩ := H
      replace H : (if (t281 == t282) = true then ((value_Same.f a0_0 a0_1 a0_2 a0_3 l0_4 l0_5 a1_0 a1_1 a1_2 a1_3 l1_4 l1_5).bind fun t283 => ((hogsheadref15_Same.f kj3 a0_0 a0_1 a0_2 a0_3 l0_4 l0_5 a1_0 a1_1 a1_2 a1_3 l1_4 l1_5).bind fun t284 => (if (t283 == t284) = true then ((hogsheadlaw0_SameValue.f kj3 t256 t257 t258 t259 t260 t263 t268 t269 t270 t271 t272 t275 100).bind fun t285 => (if t285 = true then (if (t266 == t278) = true then ((value_Quote.f kj3 a2).bind fun t286 => ((hogsheadref15_Quote.f kj3 a2).bind fun t287 => (if t286.toList = t287.toList then ((hogsheadlaw15_awake.f kj3).bind fun t288 => (some t288)) else (some false)))) else (some false)) else (some false))) else (some false)))) else (some false)) = some r := H
      have A35 := Aside0.mk A350
      clear A350
      by_cases c36 : (t281 == t282) = true
      ·rw [if_pos c36] at H
       have c36b0 : (t281 == t282) = true := c36
       (try (have c36b1 : decide (t281 = t282) = true := by simpa using c36))
       (try (have c36b2 : (t281 == t282) = true := by simpa using c36))
       clear c36
       replace H := Option.bind_eq_some_iff.mp H
       obtain ⟨t283, A370, H⟩ := H
       replace H : ((hogsheadref15_Same.f kj3 a0_0 a0_1 a0_2 a0_3 l0_4 l0_5 a1_0 a1_1 a1_2 a1_3 l1_4 l1_5).bind fun t284 => (if (t283 == t284) = true then ((hogsheadlaw0_SameValue.f kj3 t256 t257 t258 t259 t260 t263 t268 t269 t270 t271 t272 t275 100).bind fun t285 => (if t285 = true then (if (t266 == t278) = true then ((value_Quote.f kj3 a2).bind fun t286 => ((hogsheadref15_Quote.f kj3 a2).bind fun t287 => (if t286.toList = t287.toList then ((hogsheadlaw15_awake.f kj3).bind fun t288 => (some t288)) else (some false)))) else (some false)) else (some false))) else (some false))) = some r := H
       have A37 := Aside0.mk A370
       clear A370
       replace H := Option.bind_eq_some_iff.mp H
       obtain ⟨t284, A380, H⟩ := H
       replace H : (if (t283 == t284) = true then ((hogsheadlaw0_SameValue.f kj3 t256 t257 t258 t259 t260 t263 t268 t269 t270 t271 t272 t275 100).bind fun t285 => (if t285 = true then (if (t266 == t278) = true then ((value_Quote.f kj3 a2).bind fun t286 => ((hogsheadref15_Quote.f kj3 a2).bind fun t287 => (if t286.toList = t287.toList then ((hogsheadlaw15_awake.f kj3).bind fun t288 => (some t288)) else (some false)))) else (some false)) else (some false))) else (some false)) = some r := H
       have A38 := Aside0.mk A380
       clear A380
       by_cases c39 : (t283 == t284) = true
       ·rw [if_pos c39] at H
        have c39b0 : (t283 == t284) = true := c39
        (try (have c39b1 : decide (t283 = t284) = true := by simpa using c39))
        (try (have c39b2 : (t283 == t284) = true := by simpa using c39))
        clear c39
        replace H := Option.bind_eq_some_iff.mp H
        obtain ⟨t285, A400, H⟩ := H
        replace H : (if t285 = true then (if (t266 == t278) = true then ((value_Quote.f kj3 a2).bind fun t286 => ((hogsheadref15_Quote.f kj3 a2).bind fun t287 => (if t286.toList = t287.toList then ((hogsheadlaw15_awake.f kj3).bind fun t288 => (some t288)) else (some false)))) else (some false)) else (some false)) = some r := H
        have A40 := Aside0.mk A400
        clear A400
        by_cases c41 : t285 = true
        ·subst c41
         have H1 : (if (t266 == t278) = true then ((value_Quote.f kj3 a2).bind fun t286 => ((hogsheadref15_Quote.f kj3 a2).bind fun t287 => (if t286.toList = t287.toList then ((hogsheadlaw15_awake.f kj3).bind fun t288 => (some t288)) else (some false)))) else (some false)) = some r := by rw [if_pos rfl] at H; exact H
         clear H
         have H := H1
         clear H1
         by_cases c42 : (t266 == t278) = true
         ·rw [if_pos c42] at H
          have c42b0 : (t266 == t278) = true := c42
          (try (have c42b1 : decide (t266 = t278) = true := by simpa using c42))
          (try (have c42b2 : (t266 == t278) = true := by simpa using c42))
          clear c42
          replace H := Option.bind_eq_some_iff.mp H
          obtain ⟨t286, A430, H⟩ := H
          replace H : ((hogsheadref15_Quote.f kj3 a2).bind fun t287 => (if t286.toList = t287.toList then ((hogsheadlaw15_awake.f kj3).bind fun t288 => (some t288)) else (some false))) = some r := H
          have A43 := Aside0.mk A430
          clear A430
          replace H := Option.bind_eq_some_iff.mp H
          obtain ⟨t287, A440, H⟩ := H
          replace H : (if t286.toList = t287.toList then ((hogsheadlaw15_awake.f kj3).bind fun t288 => (some t288)) else (some false)) = some r := H
          have A44 := Aside0.mk A440
          clear A440
          by_cases c45 : t286.toList = t287.toList
          ·rw [if_pos c45] at H
           have c45b0 : (t286.toList == t287.toList) = true := beq_iff_eq.mpr c45
           have c45b1 : (t286.toList != t287.toList) = false := bne_eq_false_iff_eq.mpr c45
           clear c45
           replace H := Option.bind_eq_some_iff.mp H
           obtain ⟨t288, A460, H⟩ := H
           replace H : (some t288) = some r := H
           have A46 := Aside0.mk A460
           clear A460
           obtain rfl := Option.some.inj H
           have hnb47 := NB247_248.out
           have hnc47 := NB248_247.out
           have hcz48_0 : wc.cell? ⟨gb247, 0, none⟩ = some (.int .i64 a0_0) := (qAa BK247.out 0).trans rfl
           have hcz48_1 : wc.cell? ⟨gb247, 1, none⟩ = some (.bool a0_1) := (qAa BK247.out 1).trans rfl
           have hcz48_2 : wc.cell? ⟨gb247, 2, none⟩ = some (.int .i64 a0_2) := (qAa BK247.out 2).trans rfl
           have hcz48_3 : wc.cell? ⟨gb247, 3, none⟩ = some (.string a0_3) := (qAa BK247.out 3).trans rfl
           have hcz48_4 : wc.cell? ⟨gb247, 4, none⟩ = some (.slice A0_4 l0_4.length c0_4) := (qAa BK247.out 4).trans rfl
           have hcz48_5 : wc.cell? ⟨gb247, 5, none⟩ = some (.slice A0_5 l0_5.length c0_5) := (qAa BK247.out 5).trans rfl
           have hfz48_0 := qAb BK247.out 0
           have hfz48_1 := qAb BK247.out 1
           have hfz48_2 := qAb BK247.out 2
           have hfz48_3 := qAb BK247.out 3
           have hfz48_4 := qAb BK247.out 4
           have hfz48_5 := qAb BK247.out 5
           try go_wp2_with (first | ((with_reducible refine qAp (f := 16) rfl ?_); refine goesL_ (some 29) rfl rfl Tryd.func16 (by kernel_rfl) rfl #[.agg #[.int .i64 a0_0, .bool a0_1, .int .i64 a0_2, .string a0_3, .slice A0_4 l0_4.length c0_4, .slice A0_5 l0_5.length c0_5]] rfl (by (try simp only [List.map_toArray, List.map_cons, List.map_nil]); first | done | rfl | (simp only [List.length_drop, List.length_take]; rfl)) ?_; (with_reducible refine (value_Lay.calls kj3 a0_0 a0_1 a0_2 a0_3 _ _ l0_4 _ _ l0_5 t252 t253 _ ?side1 ?side2 ?side3 ?side4 ?side5 A27.out).mono ?_); (case side1 => exact ⟨Tabs.below hT.out (by repeat (first | (with_reducible first | exact HB.out | apply qAd | apply qAc | apply qAe | refine qAf ?_ GE247.out | refine qAf ?_ GE248.out) | exact HB.out))⟩); (case side2 => repeat (first | exact (Kd.C_below HR0_4.out HB.out) | (with_reducible refine Kd.C_alloc ?_ _) | (with_reducible refine Kd.C_drewN ?_ _) | (with_reducible refine Kd.C_drew ?_))); (case side3 => exact HC0_4.out); (case side4 => repeat (first | exact (Kd.C_below HR0_5.out HB.out) | (with_reducible refine Kd.C_alloc ?_ _) | (with_reducible refine Kd.C_drewN ?_ _) | (with_reducible refine Kd.C_drew ?_))); (case side5 => exact HC0_5.out); rintro e w49 ⟨rfl, hb⟩; refine ⟨_, rfl, ?_⟩; have n0_ := Aside0.mk (qAi (g := gb247) (o := .cells #[.int .i64 a0_0, .bool a0_1, .int .i64 a0_2, .string a0_3, .slice A0_4 l0_4.length c0_4, .slice A0_5 l0_5.length c0_5] 25 (0, 0)) (by (with_reducible repeat (first | refine qAg ?_ _ | refine qAh ?_ | refine blk_alloc ?_ _)); exact BK247.out) hb); have n1_ := Aside0.mk (qAi (g := gb248) (o := .cells #[.int .i64 a1_0, .bool a1_1, .int .i64 a1_2, .string a1_3, .slice A1_4 l1_4.length c1_4, .slice A1_5 l1_5.length c1_5] 25 (0, 0)) (by (with_reducible repeat (first | refine qAg ?_ _ | refine qAh ?_ | refine blk_alloc ?_ _)); exact BK248.out) hb); have n2_ := Aside0.mk (qAj (by repeat (first | (with_reducible first | exact HB.out | apply qAd | apply qAc | apply qAe | refine qAf ?_ GE247.out | refine qAf ?_ GE248.out) | exact HB.out)) hb); clear BK247; clear BK248; clear HB; have BK247 := n0_; have BK248 := n1_; have HB := n2_; clear n0_ n1_ n2_; (try clear hb); (try clear hb2); (try clear hk); (try clear hi); have hcz50_0 : w49.cell? ⟨gb247, 0, none⟩ = some (.int .i64 a0_0) := (qAa BK247.out 0).trans rfl; have hcz50_1 : w49.cell? ⟨gb247, 1, none⟩ = some (.bool a0_1) := (qAa BK247.out 1).trans rfl; have hcz50_2 : w49.cell? ⟨gb247, 2, none⟩ = some (.int .i64 a0_2) := (qAa BK247.out 2).trans rfl; have hcz50_3 : w49.cell? ⟨gb247, 3, none⟩ = some (.string a0_3) := (qAa BK247.out 3).trans rfl; have hcz50_4 : w49.cell? ⟨gb247, 4, none⟩ = some (.slice A0_4 l0_4.length c0_4) := (qAa BK247.out 4).trans rfl; have hcz50_5 : w49.cell? ⟨gb247, 5, none⟩ = some (.slice A0_5 l0_5.length c0_5) := (qAa BK247.out 5).trans rfl; have hfz50_0 := qAb BK247.out 0; have hfz50_1 := qAb BK247.out 1; have hfz50_2 := qAb BK247.out 2; have hfz50_3 := qAb BK247.out 3; have hfz50_4 := qAb BK247.out 4; have hfz50_5 := qAb BK247.out 5) | ((with_reducible refine qAp (f := 17) rfl ?_); refine goesL_ (some 34) rfl rfl Tryd.func17 (by kernel_rfl) rfl #[.agg #[.int .i64 a0_0, .bool a0_1, .int .i64 a0_2, .string a0_3, .slice A0_4 l0_4.length c0_4, .slice A0_5 l0_5.length c0_5]] rfl (by (try simp only [List.map_toArray, List.map_cons, List.map_nil]); first | done | rfl | (simp only [List.length_drop, List.length_take]; rfl)) ?_; (with_reducible refine (hogsheadref15_Lay.calls kj3 a0_0 a0_1 a0_2 a0_3 _ _ l0_4 _ _ l0_5 t254 t255 _ ?side1 ?side2 ?side3 ?side4 A28.out).mono ?_); (case side1 => repeat (first | exact (Kd.C_below HR0_4.out HB.out) | (with_reducible refine Kd.C_alloc ?_ _) | (with_reducible refine Kd.C_drewN ?_ _) | (with_reducible refine Kd.C_drew ?_))); (case side2 => exact HC0_4.out); (case side3 => repeat (first | exact (Kd.C_below HR0_5.out HB.out) | (with_reducible refine Kd.C_alloc ?_ _) | (with_reducible refine Kd.C_drewN ?_ _) | (with_reducible refine Kd.C_drew ?_))); (case side4 => exact HC0_5.out); rintro e w51 ⟨rfl, hb⟩; refine ⟨_, rfl, ?_⟩; have n0_ := Aside0.mk (qAi (g := gb247) (o := .cells #[.int .i64 a0_0, .bool a0_1, .int .i64 a0_2, .string a0_3, .slice A0_4 l0_4.length c0_4, .slice A0_5 l0_5.length c0_5] 25 (0, 0)) (by (with_reducible repeat (first | refine qAg ?_ _ | refine qAh ?_ | refine blk_alloc ?_ _)); exact BK247.out) hb); have n1_ := Aside0.mk (qAi (g := gb248) (o := .cells #[.int .i64 a1_0, .bool a1_1, .int .i64 a1_2, .string a1_3, .slice A1_4 l1_4.length c1_4, .slice A1_5 l1_5.length c1_5] 25 (0, 0)) (by (with_reducible repeat (first | refine qAg ?_ _ | refine qAh ?_ | refine blk_alloc ?_ _)); exact BK248.out) hb); have n2_ := Aside0.mk (qAj (by repeat (first | (with_reducible first | exact HB.out | apply qAd | apply qAc | apply qAe | refine qAf ?_ GE247.out | refine qAf ?_ GE248.out) | exact HB.out)) hb); clear BK247; clear BK248; clear HB; have BK247 := n0_; have BK248 := n1_; have HB := n2_; clear n0_ n1_ n2_; (try clear hb); (try clear hb2); (try clear hk); (try clear hi); have hcz52_0 : w51.cell? ⟨gb247, 0, none⟩ = some (.int .i64 a0_0) := (qAa BK247.out 0).trans rfl; have hcz52_1 : w51.cell? ⟨gb247, 1, none⟩ = some (.bool a0_1) := (qAa BK247.out 1).trans rfl; have hcz52_2 : w51.cell? ⟨gb247, 2, none⟩ = some (.int .i64 a0_2) := (qAa BK247.out 2).trans rfl; have hcz52_3 : w51.cell? ⟨gb247, 3, none⟩ = some (.string a0_3) := (qAa BK247.out 3).trans rfl; have hcz52_4 : w51.cell? ⟨gb247, 4, none⟩ = some (.slice A0_4 l0_4.length c0_4) := (qAa BK247.out 4).trans rfl; have hcz52_5 : w51.cell? ⟨gb247, 5, none⟩ = some (.slice A0_5 l0_5.length c0_5) := (qAa BK247.out 5).trans rfl; have hfz52_0 := qAb BK247.out 0; have hfz52_1 := qAb BK247.out 1; have hfz52_2 := qAb BK247.out 2; have hfz52_3 := qAb BK247.out 3; have hfz52_4 := qAb BK247.out 4; have hfz52_5 := qAb BK247.out 5) | ((with_reducible refine qAp (f := 18) rfl ?_); refine goesL_ (some 40) rfl rfl Tryd.func18 (by kernel_rfl) rfl #[.agg #[.int .i64 a0_0, .bool a0_1, .int .i64 a0_2, .string a0_3, .slice A0_4 l0_4.length c0_4, .slice A0_5 l0_5.length c0_5], .string a2] rfl (by (try simp only [List.map_toArray, List.map_cons, List.map_nil]); first | done | rfl | (simp only [List.length_drop, List.length_take]; rfl)) ?_; (with_reducible refine (value_Get.calls kj3 a0_0 a0_1 a0_2 a0_3 _ _ l0_4 _ _ l0_5 a2 t256 t257 t258 t259 t260 t263 t266 _ ?side1 ?side2 ?side3 ?side4 A29.out).mono ?_); (case side1 => repeat (first | exact (Kd.C_below HR0_4.out HB.out) | (with_reducible refine Kd.C_alloc ?_ _) | (with_reducible refine Kd.C_drewN ?_ _) | (with_reducible refine Kd.C_drew ?_))); (case side2 => exact HC0_4.out); (case side3 => repeat (first | exact (Kd.C_below HR0_5.out HB.out) | (with_reducible refine Kd.C_alloc ?_ _) | (with_reducible refine Kd.C_drewN ?_ _) | (with_reducible refine Kd.C_drew ?_))); (case side4 => exact HC0_5.out); rintro e w53 ⟨v261, v264, rfl, ho0, ho1, hb⟩; refine ⟨_, rfl, ?_⟩; have n0_ := Aside0.mk (Kd.R_lower (Kd.R_newB (Kd.R_newB ho0 (g := gb247) (o := .cells #[.int .i64 a0_0, .bool a0_1, .int .i64 a0_2, .string a0_3, .slice A0_4 l0_4.length c0_4, .slice A0_5 l0_5.length c0_5] 25 (0, 0)) (by (with_reducible repeat (first | refine qAg ?_ _ | refine qAh ?_ | refine blk_alloc ?_ _)); exact BK247.out)) (g := gb248) (o := .cells #[.int .i64 a1_0, .bool a1_1, .int .i64 a1_2, .string a1_3, .slice A1_4 l1_4.length c1_4, .slice A1_5 l1_5.length c1_5] 25 (0, 0)) (by (with_reducible repeat (first | refine qAg ?_ _ | refine qAh ?_ | refine blk_alloc ?_ _)); exact BK248.out)) (qAl (by repeat (first | (with_reducible first | exact HB.out | apply qAd | apply qAc | apply qAe | refine qAf ?_ GE247.out | refine qAf ?_ GE248.out) | exact HB.out)))); have n1_ := Aside0.mk (Kd.R_lower ho1 (qAl (by repeat (first | (with_reducible first | exact HB.out | apply qAd | apply qAc | apply qAe | refine qAf ?_ GE247.out | refine qAf ?_ GE248.out) | exact HB.out)))); have n2_ := Aside0.mk (qAi (g := gb247) (o := .cells #[.int .i64 a0_0, .bool a0_1, .int .i64 a0_2, .string a0_3, .slice A0_4 l0_4.length c0_4, .slice A0_5 l0_5.length c0_5] 25 (0, 0)) (by (with_reducible repeat (first | refine qAg ?_ _ | refine qAh ?_ | refine blk_alloc ?_ _)); exact BK247.out) hb); have n3_ := Aside0.mk (qAi (g := gb248) (o := .cells #[.int .i64 a1_0, .bool a1_1, .int .i64 a1_2, .string a1_3, .slice A1_4 l1_4.length c1_4, .slice A1_5 l1_5.length c1_5] 25 (0, 0)) (by (with_reducible repeat (first | refine qAg ?_ _ | refine qAh ?_ | refine blk_alloc ?_ _)); exact BK248.out) hb); have n4_ := Aside0.mk (qAj (by repeat (first | (with_reducible first | exact HB.out | apply qAd | apply qAc | apply qAe | refine qAf ?_ GE247.out | refine qAf ?_ GE248.out) | exact HB.out)) hb); clear BK247; clear BK248; clear HB; have HO262 := n0_; have HO265 := n1_; have BK247 := n2_; have BK248 := n3_; have HB := n4_; clear n0_ n1_ n2_ n3_ n4_; (try clear hb); (try clear hb2); (try clear hk); (try clear hi); (try clear ho0); (try clear ho1)) | ((with_reducible refine qAv (N := 11) rfl ?_); (try (refine qBd (by rfl) ?_; dsimp only)); refine qAu ?hg (N := 11) ?hd (cs := #[.int .i64 0, .bool false, .int .i64 0, .string (⟨#[]⟩ : ByteArray), .slice none 0 0, .slice none 0 0]) (t := 25) ?hr ?_; (case hd => rfl); (case hg => rfl); (case hr => first | (go_simp; done) | (go_simp; rfl)); intro gb267 hg w54 hbox hb; have n0_ := Aside0.mk (Kd.R_below (Kd.R_elderB (by (with_reducible repeat (first | apply Kd.R_alloc | apply Kd.R_drewN | apply Kd.R_drew)); exact HO262.out) gb267 (Nat.le_of_eq hg.symm)) hb); have n1_ := Aside0.mk (Kd.R_below (by (with_reducible repeat (first | apply Kd.R_alloc | apply Kd.R_drewN | apply Kd.R_drew)); exact HO265.out) hb); have n2_ := Aside0.mk (qAi (g := gb247) (o := .cells #[.int .i64 a0_0, .bool a0_1, .int .i64 a0_2, .string a0_3, .slice A0_4 l0_4.length c0_4, .slice A0_5 l0_5.length c0_5] 25 (0, 0)) (by (with_reducible repeat (first | refine qAg ?_ _ | refine qAh ?_ | refine blk_alloc ?_ _)); exact BK247.out) hb); have n3_ := Aside0.mk (qAi (g := gb248) (o := .cells #[.int .i64 a1_0, .bool a1_1, .int .i64 a1_2, .string a1_3, .slice A1_4 l1_4.length c1_4, .slice A1_5 l1_5.length c1_5] 25 (0, 0)) (by (with_reducible repeat (first | refine qAg ?_ _ | refine qAh ?_ | refine blk_alloc ?_ _)); exact BK248.out) hb); have n4_ := Aside0.mk (qAj (by repeat (first | (with_reducible first | exact HB.out | apply qAd | apply qAc | apply qAe | refine qAf ?_ GE247.out | refine qAf ?_ GE248.out) | exact HB.out)) hb); have n5_ := Aside0.mk (hbox); have n6_ := Aside0.mk ((by rw [hg]; exact (qAl (by repeat (first | (with_reducible first | exact HB.out | apply qAd | apply qAc | apply qAe | refine qAf ?_ GE247.out | refine qAf ?_ GE248.out) | exact HB.out))) : w.heap.size ≤ gb267)); have n7_ := Aside0.mk ((by rw [hg]; exact (qAl (by repeat (first | (with_reducible first | exact HB.out | apply qAd | apply qAc | apply qAe | refine qAf ?_ GE247.out | refine qAf ?_ GE248.out) | exact HB.out))) : w.heap.size ≤ gb267)); have n8_ := Aside0.mk ((by rw [hg]; exact Nat.ne_of_lt (blk_lt (g := gb247) (o := .cells #[.int .i64 a0_0, .bool a0_1, .int .i64 a0_2, .string a0_3, .slice A0_4 l0_4.length c0_4, .slice A0_5 l0_5.length c0_5] 25 (0, 0)) (by (with_reducible repeat (first | refine qAg ?_ _ | refine qAh ?_ | refine blk_alloc ?_ _)); exact BK247.out)) : gb247 ≠ gb267)); have n9_ := Aside0.mk ((by rw [hg]; exact Nat.ne_of_gt (blk_lt (g := gb247) (o := .cells #[.int .i64 a0_0, .bool a0_1, .int .i64 a0_2, .string a0_3, .slice A0_4 l0_4.length c0_4, .slice A0_5 l0_5.length c0_5] 25 (0, 0)) (by (with_reducible repeat (first | refine qAg ?_ _ | refine qAh ?_ | refine blk_alloc ?_ _)); exact BK247.out)) : gb267 ≠ gb247)); have n10_ := Aside0.mk ((by rw [hg]; exact Nat.ne_of_lt (blk_lt (g := gb248) (o := .cells #[.int .i64 a1_0, .bool a1_1, .int .i64 a1_2, .string a1_3, .slice A1_4 l1_4.length c1_4, .slice A1_5 l1_5.length c1_5] 25 (0, 0)) (by (with_reducible repeat (first | refine qAg ?_ _ | refine qAh ?_ | refine blk_alloc ?_ _)); exact BK248.out)) : gb248 ≠ gb267)); have n11_ := Aside0.mk ((by rw [hg]; exact Nat.ne_of_gt (blk_lt (g := gb248) (o := .cells #[.int .i64 a1_0, .bool a1_1, .int .i64 a1_2, .string a1_3, .slice A1_4 l1_4.length c1_4, .slice A1_5 l1_5.length c1_5] 25 (0, 0)) (by (with_reducible repeat (first | refine qAg ?_ _ | refine qAh ?_ | refine blk_alloc ?_ _)); exact BK248.out)) : gb267 ≠ gb248)); clear HO262; clear HO265; clear BK247; clear BK248; clear HB; have HO262 := n0_; have HO265 := n1_; have BK247 := n2_; have BK248 := n3_; have HB := n4_; have BK267 := n5_; have GW267 := n6_; have GE267 := n7_; have NB247_267 := n8_; have NB267_247 := n9_; have NB248_267 := n10_; have NB267_248 := n11_; clear n0_ n1_ n2_ n3_ n4_ n5_ n6_ n7_ n8_ n9_ n10_ n11_; clear hb hbox hg; have hnb55 := NB267_247.out; have hnc55 := NB247_267.out; have hnb56 := NB267_248.out; have hnc56 := NB248_267.out; have hcz57_0 : w54.cell? ⟨gb267, 0, none⟩ = some (.int .i64 0) := (qAa BK267.out 0).trans rfl; have hcz57_1 : w54.cell? ⟨gb267, 1, none⟩ = some (.bool false) := (qAa BK267.out 1).trans rfl; have hcz57_2 : w54.cell? ⟨gb267, 2, none⟩ = some (.int .i64 0) := (qAa BK267.out 2).trans rfl; have hcz57_3 : w54.cell? ⟨gb267, 3, none⟩ = some (.string (⟨#[]⟩ : ByteArray)) := (qAa BK267.out 3).trans rfl; have hcz57_4 : w54.cell? ⟨gb267, 4, none⟩ = some (.slice none 0 0) := (qAa BK267.out 4).trans rfl; have hcz57_5 : w54.cell? ⟨gb267, 5, none⟩ = some (.slice none 0 0) := (qAa BK267.out 5).trans rfl; have hfz57_0 := qAb BK267.out 0; have hfz57_1 := qAb BK267.out 1; have hfz57_2 := qAb BK267.out 2; have hfz57_3 := qAb BK267.out 3; have hfz57_4 := qAb BK267.out 4; have hfz57_5 := qAb BK267.out 5; obtain ⟨Ao58, co58, eo58⟩ := Kd.R_slice HO262.out; subst eo58; obtain ⟨Ao59, co59, eo59⟩ := Kd.R_slice HO265.out; subst eo59) | ((with_reducible refine qG0 (t := 25) (p := 11) rfl ?_); refine qFx (t := 25) (p := 11) (v := ?vo_w60) (w1 := ((((((w54.setCell ⟨gb267, 0, none⟩ (.int .i64 t256)).setCell ⟨gb267, 1, none⟩ (.bool t257)).setCell ⟨gb267, 2, none⟩ (.int .i64 t258)).setCell ⟨gb267, 3, none⟩ (.string t259)).setCell ⟨gb267, 4, none⟩ (.slice Ao58 t260.length co58)).setCell ⟨gb267, 5, none⟩ (.slice Ao59 t263.length co59))) ?hg ?ho ?hn ?hr ?_; (case ho => rfl); (case hg => rfl); (case hn => rfl); (case hr => first | (go_simp; done) | (go_simp; rfl)); intro w60 hw; have n0_ : Aside0 (Kd.R k25 25 w60 w.heap.size (fun k_ => some k_ ≠ (.slice Ao59 t263.length co59 : Value).ownBlock ∧ k_ ≠ gb247 ∧ k_ ≠ gb248 ∧ k_ ≠ gb267) (.slice Ao58 t260.length co58) t260) := ⟨(by rw [hw]; exact (by (with_reducible repeat (first | apply Kd.R_alloc | apply Kd.R_drewN | apply Kd.R_drew)); exact Kd.R_mono (Kd.R_far (p := ⟨gb267, 5, none⟩) (Kd.R_far (p := ⟨gb267, 4, none⟩) (Kd.R_far (p := ⟨gb267, 3, none⟩) (Kd.R_far (p := ⟨gb267, 2, none⟩) (Kd.R_far (p := ⟨gb267, 1, none⟩) (Kd.R_far (p := ⟨gb267, 0, none⟩) (Kd.R_mono HO262.out (fun k_ hk => (⟨hk, hk.2⟩ : _ ∧ k_ ≠ gb267))) (fun _ hk => hk.2) (.int .i64 t256)) (fun _ hk => hk.2) (.bool t257)) (fun _ hk => hk.2) (.int .i64 t258)) (fun _ hk => hk.2) (.string t259)) (fun _ hk => hk.2) (.slice Ao58 t260.length co58)) (fun _ hk => hk.2) (.slice Ao59 t263.length co59)) (fun _ hk => ⟨hk.1.1.1.1, ⟨hk.1.1.1.2, ⟨hk.1.1.2, hk.1.2⟩⟩⟩)))⟩; have n1_ : Aside0 (Kd.R Kd.string 9 w60 w.heap.size (fun _ => True) (.slice Ao59 t263.length co59) t263) := ⟨(by rw [hw]; exact (by (with_reducible repeat (first | apply Kd.R_alloc | apply Kd.R_drewN | apply Kd.R_drew)); exact Kd.R_mono (Kd.R_far (p := ⟨gb267, 5, none⟩) (Kd.R_far (p := ⟨gb267, 4, none⟩) (Kd.R_far (p := ⟨gb267, 3, none⟩) (Kd.R_far (p := ⟨gb267, 2, none⟩) (Kd.R_far (p := ⟨gb267, 1, none⟩) (Kd.R_far (p := ⟨gb267, 0, none⟩) (Kd.R_types HO265.out BK267.out (by decide)) (fun _ hk => hk.2) (.int .i64 t256)) (fun _ hk => hk.2) (.bool t257)) (fun _ hk => hk.2) (.int .i64 t258)) (fun _ hk => hk.2) (.string t259)) (fun _ hk => hk.2) (.slice Ao58 t260.length co58)) (fun _ hk => hk.2) (.slice Ao59 t263.length co59)) (fun _ hk => trivial)))⟩; have n2_ : Aside0 (w60.heap[gb247]? = some (.cells #[.int .i64 a0_0, .bool a0_1, .int .i64 a0_2, .string a0_3, .slice A0_4 l0_4.length c0_4, .slice A0_5 l0_5.length c0_5] 25 (0, 0))) := ⟨(by rw [hw]; exact (by (with_reducible repeat (first | refine qAg ?_ _ | refine qAh ?_ | refine blk_alloc ?_ _)); refine qAw ?_ NB247_267.out _; (with_reducible repeat (first | refine qAg ?_ _ | refine qAh ?_ | refine blk_alloc ?_ _)); refine qAw ?_ NB247_267.out _; (with_reducible repeat (first | refine qAg ?_ _ | refine qAh ?_ | refine blk_alloc ?_ _)); refine qAw ?_ NB247_267.out _; (with_reducible repeat (first | refine qAg ?_ _ | refine qAh ?_ | refine blk_alloc ?_ _)); refine qAw ?_ NB247_267.out _; (with_reducible repeat (first | refine qAg ?_ _ | refine qAh ?_ | refine blk_alloc ?_ _)); refine qAw ?_ NB247_267.out _; (with_reducible repeat (first | refine qAg ?_ _ | refine qAh ?_ | refine blk_alloc ?_ _)); refine qAw ?_ NB247_267.out _; (with_reducible repeat (first | refine qAg ?_ _ | refine qAh ?_ | refine blk_alloc ?_ _)); exact BK247.out))⟩; have n3_ : Aside0 (w60.heap[gb248]? = some (.cells #[.int .i64 a1_0, .bool a1_1, .int .i64 a1_2, .string a1_3, .slice A1_4 l1_4.length c1_4, .slice A1_5 l1_5.length c1_5] 25 (0, 0))) := ⟨(by rw [hw]; exact (by (with_reducible repeat (first | refine qAg ?_ _ | refine qAh ?_ | refine blk_alloc ?_ _)); refine qAw ?_ NB248_267.out _; (with_reducible repeat (first | refine qAg ?_ _ | refine qAh ?_ | refine blk_alloc ?_ _)); refine qAw ?_ NB248_267.out _; (with_reducible repeat (first | refine qAg ?_ _ | refine qAh ?_ | refine blk_alloc ?_ _)); refine qAw ?_ NB248_267.out _; (with_reducible repeat (first | refine qAg ?_ _ | refine qAh ?_ | refine blk_alloc ?_ _)); refine qAw ?_ NB248_267.out _; (with_reducible repeat (first | refine qAg ?_ _ | refine qAh ?_ | refine blk_alloc ?_ _)); refine qAw ?_ NB248_267.out _; (with_reducible repeat (first | refine qAg ?_ _ | refine qAh ?_ | refine blk_alloc ?_ _)); refine qAw ?_ NB248_267.out _; (with_reducible repeat (first | refine qAg ?_ _ | refine qAh ?_ | refine blk_alloc ?_ _)); exact BK248.out))⟩; have n4_ : Aside0 (w60.heap[gb267]? = some (.cells #[.int .i64 t256, .bool t257, .int .i64 t258, .string t259, .slice Ao58 t260.length co58, .slice Ao59 t263.length co59] 25 (0, 0))) := ⟨(by rw [hw]; exact (by (with_reducible repeat (first | refine qAg ?_ _ | refine qAh ?_ | refine blk_alloc ?_ _)); refine qAr (cs := #[.int .i64 t256, .bool t257, .int .i64 t258, .string t259, .slice Ao58 t260.length co58, .slice none 0 0]) ?_ 5 _ rfl; (with_reducible repeat (first | refine qAg ?_ _ | refine qAh ?_ | refine blk_alloc ?_ _)); refine qAr (cs := #[.int .i64 t256, .bool t257, .int .i64 t258, .string t259, .slice none 0 0, .slice none 0 0]) ?_ 4 _ rfl; (with_reducible repeat (first | refine qAg ?_ _ | refine qAh ?_ | refine blk_alloc ?_ _)); refine qAr (cs := #[.int .i64 t256, .bool t257, .int .i64 t258, .string (⟨#[]⟩ : ByteArray), .slice none 0 0, .slice none 0 0]) ?_ 3 _ rfl; (with_reducible repeat (first | refine qAg ?_ _ | refine qAh ?_ | refine blk_alloc ?_ _)); refine qAr (cs := #[.int .i64 t256, .bool t257, .int .i64 0, .string (⟨#[]⟩ : ByteArray), .slice none 0 0, .slice none 0 0]) ?_ 2 _ rfl; (with_reducible repeat (first | refine qAg ?_ _ | refine qAh ?_ | refine blk_alloc ?_ _)); refine qAr (cs := #[.int .i64 t256, .bool false, .int .i64 0, .string (⟨#[]⟩ : ByteArray), .slice none 0 0, .slice none 0 0]) ?_ 1 _ rfl; (with_reducible repeat (first | refine qAg ?_ _ | refine qAh ?_ | refine blk_alloc ?_ _)); refine qAr (cs := #[.int .i64 0, .bool false, .int .i64 0, .string (⟨#[]⟩ : ByteArray), .slice none 0 0, .slice none 0 0]) ?_ 0 _ rfl; (with_reducible repeat (first | refine qAg ?_ _ | refine qAh ?_ | refine blk_alloc ?_ _)); exact BK267.out))⟩; have n5_ : Aside0 (Below w.heap.size w w60) := ⟨(by rw [hw]; exact (by repeat (first | (with_reducible first | exact HB.out | apply qAd | apply qAc | apply qAe | refine qAf ?_ GE247.out | refine qAf ?_ GE248.out | refine qAf ?_ GE267.out) | exact HB.out)))⟩; clear hw; clear HO262; clear HO265; clear BK247; clear BK248; clear BK267; clear HB; have HO262 := n0_; have HO265 := n1_; have BK247 := n2_; have BK248 := n3_; have BK267 := n4_; have HB := n5_; clear n0_ n1_ n2_ n3_ n4_ n5_; have hcz61_0 : w60.cell? ⟨gb247, 0, none⟩ = some (.int .i64 a0_0) := (qAa BK247.out 0).trans rfl; have hcz61_1 : w60.cell? ⟨gb247, 1, none⟩ = some (.bool a0_1) := (qAa BK247.out 1).trans rfl; have hcz61_2 : w60.cell? ⟨gb247, 2, none⟩ = some (.int .i64 a0_2) := (qAa BK247.out 2).trans rfl; have hcz61_3 : w60.cell? ⟨gb247, 3, none⟩ = some (.string a0_3) := (qAa BK247.out 3).trans rfl; have hcz61_4 : w60.cell? ⟨gb247, 4, none⟩ = some (.slice A0_4 l0_4.length c0_4) := (qAa BK247.out 4).trans rfl; have hcz61_5 : w60.cell? ⟨gb247, 5, none⟩ = some (.slice A0_5 l0_5.length c0_5) := (qAa BK247.out 5).trans rfl; have hfz61_0 := qAb BK247.out 0; have hfz61_1 := qAb BK247.out 1; have hfz61_2 := qAb BK247.out 2; have hfz61_3 := qAb BK247.out 3; have hfz61_4 := qAb BK247.out 4; have hfz61_5 := qAb BK247.out 5) | ((with_reducible refine qAp (f := 19) rfl ?_); refine goesL_ (some 46) rfl rfl Tryd.func19 (by kernel_rfl) rfl #[.agg #[.int .i64 a0_0, .bool a0_1, .int .i64 a0_2, .string a0_3, .slice A0_4 l0_4.length c0_4, .slice A0_5 l0_5.length c0_5], .string a2] rfl (by (try simp only [List.map_toArray, List.map_cons, List.map_nil]); first | done | rfl | (simp only [List.length_drop, List.length_take]; rfl)) ?_; (with_reducible refine (hogsheadref15_Get.calls kj3 a0_0 a0_1 a0_2 a0_3 (fun k_ => k_ < w.heap.size) _ _ l0_4 _ _ l0_5 a2 t268 t269 t270 t271 t272 t275 t278 _ ?side1 ?side2 ?side3 A30.out).mono ?_); (case side1 => exact Kd.V_mk HC0_4.out (Kd.F_below (Kd.C_F qIp HR0_4.out) (by repeat (first | (with_reducible first | exact HB.out | apply qAd | apply qAc | apply qAe | refine qAf ?_ GE247.out | refine qAf ?_ GE248.out | refine qAf ?_ GE267.out) | exact HB.out)))); (case side2 => repeat (first | exact (Kd.C_below HR0_5.out HB.out) | (with_reducible refine Kd.C_alloc ?_ _) | (with_reducible refine Kd.C_drewN ?_ _) | (with_reducible refine Kd.C_drew ?_))); (case side3 => exact HC0_5.out); rintro e w62 ⟨v273, v276, rfl, ho0, ho1, hb⟩; refine ⟨_, rfl, ?_⟩; have n0_ := Aside0.mk (Kd.R_below (by (with_reducible repeat (first | apply Kd.R_alloc | apply Kd.R_drewN | apply Kd.R_drew)); exact HO262.out) hb); have n1_ := Aside0.mk (Kd.R_below (by (with_reducible repeat (first | apply Kd.R_alloc | apply Kd.R_drewN | apply Kd.R_drew)); exact HO265.out) hb); have n2_ := Aside0.mk (Kd.V_lower (Kd.V_mono (ok' := fun k_ => some k_ ≠ (.slice Ao58 t260.length co58 : Value).ownBlock ∧ some k_ ≠ (.slice Ao59 t263.length co59 : Value).ownBlock ∧ k_ ≠ gb247 ∧ k_ ≠ gb248 ∧ k_ ≠ gb267) ho0 (fun k_ hk_ => ⟨Or.elim hk_ (fun hs_ => fun e_ => Nat.not_le.2 hs_ (Kd.R_base HO262.out k_ e_.symm)) (fun hn_ => (Kd.fresh' (Kd.R_lt (by (with_reducible repeat (first | apply Kd.R_alloc | apply Kd.R_drewN | apply Kd.R_drew)); exact HO262.out)) k_ hn_)), Or.elim hk_ (fun hs_ => fun e_ => Nat.not_le.2 hs_ (Kd.R_base HO265.out k_ e_.symm)) (fun hn_ => (Kd.fresh' (Kd.R_lt (by (with_reducible repeat (first | apply Kd.R_alloc | apply Kd.R_drewN | apply Kd.R_drew)); exact HO265.out)) k_ hn_)), Or.elim hk_ (fun hs_ => fun e_ => Nat.not_le.2 hs_ (by rw [e_]; exact GW247.out)) (fun hn_ => (Kd.freshB (g := gb247) (o := .cells #[.int .i64 a0_0, .bool a0_1, .int .i64 a0_2, .string a0_3, .slice A0_4 l0_4.length c0_4, .slice A0_5 l0_5.length c0_5] 25 (0, 0)) (by (with_reducible repeat (first | refine qAg ?_ _ | refine qAh ?_ | refine blk_alloc ?_ _)); exact BK247.out) k_ hn_)), Or.elim hk_ (fun hs_ => fun e_ => Nat.not_le.2 hs_ (by rw [e_]; exact GW248.out)) (fun hn_ => (Kd.freshB (g := gb248) (o := .cells #[.int .i64 a1_0, .bool a1_1, .int .i64 a1_2, .string a1_3, .slice A1_4 l1_4.length c1_4, .slice A1_5 l1_5.length c1_5] 25 (0, 0)) (by (with_reducible repeat (first | refine qAg ?_ _ | refine qAh ?_ | refine blk_alloc ?_ _)); exact BK248.out) k_ hn_)), Or.elim hk_ (fun hs_ => fun e_ => Nat.not_le.2 hs_ (by rw [e_]; exact GW267.out)) (fun hn_ => (Kd.freshB (g := gb267) (o := .cells #[.int .i64 t256, .bool t257, .int .i64 t258, .string t259, .slice Ao58 t260.length co58, .slice Ao59 t263.length co59] 25 (0, 0)) (by (with_reducible repeat (first | refine qAg ?_ _ | refine qAh ?_ | refine blk_alloc ?_ _)); exact BK267.out) k_ hn_))⟩)) (qAl (by repeat (first | (with_reducible first | exact HB.out | apply qAd | apply qAc | apply qAe | refine qAf ?_ GE247.out | refine qAf ?_ GE248.out | refine qAf ?_ GE267.out) | exact HB.out)))); have n3_ := Aside0.mk (Kd.V_lower (Kd.V_mono (ok' := fun k_ => some k_ ≠ (.slice Ao58 t260.length co58 : Value).ownBlock ∧ some k_ ≠ (.slice Ao59 t263.length co59 : Value).ownBlock ∧ k_ ≠ gb247 ∧ k_ ≠ gb248 ∧ k_ ≠ gb267) ho1 (fun k_ hk_ => ⟨Or.elim hk_ (fun hs_ => fun e_ => Nat.not_le.2 hs_ (Kd.R_base HO262.out k_ e_.symm)) (fun hn_ => (Kd.fresh' (Kd.R_lt (by (with_reducible repeat (first | apply Kd.R_alloc | apply Kd.R_drewN | apply Kd.R_drew)); exact HO262.out)) k_ hn_)), Or.elim hk_ (fun hs_ => fun e_ => Nat.not_le.2 hs_ (Kd.R_base HO265.out k_ e_.symm)) (fun hn_ => (Kd.fresh' (Kd.R_lt (by (with_reducible repeat (first | apply Kd.R_alloc | apply Kd.R_drewN | apply Kd.R_drew)); exact HO265.out)) k_ hn_)), Or.elim hk_ (fun hs_ => fun e_ => Nat.not_le.2 hs_ (by rw [e_]; exact GW247.out)) (fun hn_ => (Kd.freshB (g := gb247) (o := .cells #[.int .i64 a0_0, .bool a0_1, .int .i64 a0_2, .string a0_3, .slice A0_4 l0_4.length c0_4, .slice A0_5 l0_5.length c0_5] 25 (0, 0)) (by (with_reducible repeat (first | refine qAg ?_ _ | refine qAh ?_ | refine blk_alloc ?_ _)); exact BK247.out) k_ hn_)), Or.elim hk_ (fun hs_ => fun e_ => Nat.not_le.2 hs_ (by rw [e_]; exact GW248.out)) (fun hn_ => (Kd.freshB (g := gb248) (o := .cells #[.int .i64 a1_0, .bool a1_1, .int .i64 a1_2, .string a1_3, .slice A1_4 l1_4.length c1_4, .slice A1_5 l1_5.length c1_5] 25 (0, 0)) (by (with_reducible repeat (first | refine qAg ?_ _ | refine qAh ?_ | refine blk_alloc ?_ _)); exact BK248.out) k_ hn_)), Or.elim hk_ (fun hs_ => fun e_ => Nat.not_le.2 hs_ (by rw [e_]; exact GW267.out)) (fun hn_ => (Kd.freshB (g := gb267) (o := .cells #[.int .i64 t256, .bool t257, .int .i64 t258, .string t259, .slice Ao58 t260.length co58, .slice Ao59 t263.length co59] 25 (0, 0)) (by (with_reducible repeat (first | refine qAg ?_ _ | refine qAh ?_ | refine blk_alloc ?_ _)); exact BK267.out) k_ hn_))⟩)) (qAl (by repeat (first | (with_reducible first | exact HB.out | apply qAd | apply qAc | apply qAe | refine qAf ?_ GE247.out | refine qAf ?_ GE248.out | refine qAf ?_ GE267.out) | exact HB.out)))); have n4_ := Aside0.mk (qAi (g := gb247) (o := .cells #[.int .i64 a0_0, .bool a0_1, .int .i64 a0_2, .string a0_3, .slice A0_4 l0_4.length c0_4, .slice A0_5 l0_5.length c0_5] 25 (0, 0)) (by (with_reducible repeat (first | refine qAg ?_ _ | refine qAh ?_ | refine blk_alloc ?_ _)); exact BK247.out) hb); have n5_ := Aside0.mk (qAi (g := gb248) (o := .cells #[.int .i64 a1_0, .bool a1_1, .int .i64 a1_2, .string a1_3, .slice A1_4 l1_4.length c1_4, .slice A1_5 l1_5.length c1_5] 25 (0, 0)) (by (with_reducible repeat (first | refine qAg ?_ _ | refine qAh ?_ | refine blk_alloc ?_ _)); exact BK248.out) hb); have n6_ := Aside0.mk (qAi (g := gb267) (o := .cells #[.int .i64 t256, .bool t257, .int .i64 t258, .string t259, .slice Ao58 t260.length co58, .slice Ao59 t263.length co59] 25 (0, 0)) (by (with_reducible repeat (first | refine qAg ?_ _ | refine qAh ?_ | refine blk_alloc ?_ _)); exact BK267.out) hb); have n7_ := Aside0.mk (qAj (by repeat (first | (with_reducible first | exact HB.out | apply qAd | apply qAc | apply qAe | refine qAf ?_ GE247.out | refine qAf ?_ GE248.out | refine qAf ?_ GE267.out) | exact HB.out)) hb); clear HO262; clear HO265; clear BK247; clear BK248; clear BK267; clear HB; have HO262 := n0_; have HO265 := n1_; have HO274 := n2_; have HO277 := n3_; have BK247 := n4_; have BK248 := n5_; have BK267 := n6_; have HB := n7_; clear n0_ n1_ n2_ n3_ n4_ n5_ n6_ n7_; (try clear hb); (try clear hb2); (try clear hk); (try clear hi); (try clear ho0); (try clear ho1)) | ((with_reducible refine qAv (N := 13) rfl ?_); (try (refine qBd (by rfl) ?_; dsimp only)); refine qAu ?hg (N := 13) ?hd (cs := #[.int .i64 0, .bool false, .int .i64 0, .string (⟨#[]⟩ : ByteArray), .slice none 0 0, .slice none 0 0]) (t := 25) ?hr ?_; (case hd => rfl); (case hg => rfl); (case hr => first | (go_simp; done) | (go_simp; rfl)); intro gb279 hg w63 hbox hb; have n0_ := Aside0.mk (Kd.R_below (Kd.R_elderB (by (with_reducible repeat (first | apply Kd.R_alloc | apply Kd.R_drewN | apply Kd.R_drew)); exact HO262.out) gb279 (Nat.le_of_eq hg.symm)) hb); have n1_ := Aside0.mk (Kd.R_below (by (with_reducible repeat (first | apply Kd.R_alloc | apply Kd.R_drewN | apply Kd.R_drew)); exact HO265.out) hb); have n2_ := Aside0.mk (Kd.V_below (Kd.V_elderB (by (with_reducible repeat (first | apply Kd.V_alloc | apply Kd.V_drewN | apply Kd.V_drew)); exact HO274.out) gb279 (Nat.le_of_eq hg.symm)) hb); have n3_ := Aside0.mk (Kd.V_below (Kd.V_elderB (by (with_reducible repeat (first | apply Kd.V_alloc | apply Kd.V_drewN | apply Kd.V_drew)); exact HO277.out) gb279 (Nat.le_of_eq hg.symm)) hb); have n4_ := Aside0.mk (qAi (g := gb247) (o := .cells #[.int .i64 a0_0, .bool a0_1, .int .i64 a0_2, .string a0_3, .slice A0_4 l0_4.length c0_4, .slice A0_5 l0_5.length c0_5] 25 (0, 0)) (by (with_reducible repeat (first | refine qAg ?_ _ | refine qAh ?_ | refine blk_alloc ?_ _)); exact BK247.out) hb); have n5_ := Aside0.mk (qAi (g := gb248) (o := .cells #[.int .i64 a1_0, .bool a1_1, .int .i64 a1_2, .string a1_3, .slice A1_4 l1_4.length c1_4, .slice A1_5 l1_5.length c1_5] 25 (0, 0)) (by (with_reducible repeat (first | refine qAg ?_ _ | refine qAh ?_ | refine blk_alloc ?_ _)); exact BK248.out) hb); have n6_ := Aside0.mk (qAi (g := gb267) (o := .cells #[.int .i64 t256, .bool t257, .int .i64 t258, .string t259, .slice Ao58 t260.length co58, .slice Ao59 t263.length co59] 25 (0, 0)) (by (with_reducible repeat (first | refine qAg ?_ _ | refine qAh ?_ | refine blk_alloc ?_ _)); exact BK267.out) hb); have n7_ := Aside0.mk (qAj (by repeat (first | (with_reducible first | exact HB.out | apply qAd | apply qAc | apply qAe | refine qAf ?_ GE247.out | refine qAf ?_ GE248.out | refine qAf ?_ GE267.out) | exact HB.out)) hb); have n8_ := Aside0.mk (hbox); have n9_ := Aside0.mk ((by rw [hg]; exact (qAl (by repeat (first | (with_reducible first | exact HB.out | apply qAd | apply qAc | apply qAe | refine qAf ?_ GE247.out | refine qAf ?_ GE248.out | refine qAf ?_ GE267.out) | exact HB.out))) : w.heap.size ≤ gb279)); have n10_ := Aside0.mk ((by rw [hg]; exact (qAl (by repeat (first | (with_reducible first | exact HB.out | apply qAd | apply qAc | apply qAe | refine qAf ?_ GE247.out | refine qAf ?_ GE248.out | refine qAf ?_ GE267.out) | exact HB.out))) : w.heap.size ≤ gb279)); have n11_ := Aside0.mk ((by rw [hg]; exact Nat.ne_of_lt (blk_lt (g := gb247) (o := .cells #[.int .i64 a0_0, .bool a0_1, .int .i64 a0_2, .string a0_3, .slice A0_4 l0_4.length c0_4, .slice A0_5 l0_5.length c0_5] 25 (0, 0)) (by (with_reducible repeat (first | refine qAg ?_ _ | refine qAh ?_ | refine blk_alloc ?_ _)); exact BK247.out)) : gb247 ≠ gb279)); have n12_ := Aside0.mk ((by rw [hg]; exact Nat.ne_of_gt (blk_lt (g := gb247) (o := .cells #[.int .i64 a0_0, .bool a0_1, .int .i64 a0_2, .string a0_3, .slice A0_4 l0_4.length c0_4, .slice A0_5 l0_5.length c0_5] 25 (0, 0)) (by (with_reducible repeat (first | refine qAg ?_ _ | refine qAh ?_ | refine blk_alloc ?_ _)); exact BK247.out)) : gb279 ≠ gb247)); have n13_ := Aside0.mk ((by rw [hg]; exact Nat.ne_of_lt (blk_lt (g := gb248) (o := .cells #[.int .i64 a1_0, .bool a1_1, .int .i64 a1_2, .string a1_3, .slice A1_4 l1_4.length c1_4, .slice A1_5 l1_5.length c1_5] 25 (0, 0)) (by (with_reducible repeat (first | refine qAg ?_ _ | refine qAh ?_ | refine blk_alloc ?_ _)); exact BK248.out)) : gb248 ≠ gb279)); have n14_ := Aside0.mk ((by rw [hg]; exact Nat.ne_of_gt (blk_lt (g := gb248) (o := .cells #[.int .i64 a1_0, .bool a1_1, .int .i64 a1_2, .string a1_3, .slice A1_4 l1_4.length c1_4, .slice A1_5 l1_5.length c1_5] 25 (0, 0)) (by (with_reducible repeat (first | refine qAg ?_ _ | refine qAh ?_ | refine blk_alloc ?_ _)); exact BK248.out)) : gb279 ≠ gb248)); have n15_ := Aside0.mk ((by rw [hg]; exact Nat.ne_of_lt (blk_lt (g := gb267) (o := .cells #[.int .i64 t256, .bool t257, .int .i64 t258, .string t259, .slice Ao58 t260.length co58, .slice Ao59 t263.length co59] 25 (0, 0)) (by (with_reducible repeat (first | refine qAg ?_ _ | refine qAh ?_ | refine blk_alloc ?_ _)); exact BK267.out)) : gb267 ≠ gb279)); have n16_ := Aside0.mk ((by rw [hg]; exact Nat.ne_of_gt (blk_lt (g := gb267) (o := .cells #[.int .i64 t256, .bool t257, .int .i64 t258, .string t259, .slice Ao58 t260.length co58, .slice Ao59 t263.length co59] 25 (0, 0)) (by (with_reducible repeat (first | refine qAg ?_ _ | refine qAh ?_ | refine blk_alloc ?_ _)); exact BK267.out)) : gb279 ≠ gb267)); clear HO262; clear HO265; clear HO274; clear HO277; clear BK247; clear BK248; clear BK267; clear HB; have HO262 := n0_; have HO265 := n1_; have HO274 := n2_; have HO277 := n3_; have BK247 := n4_; have BK248 := n5_; have BK267 := n6_; have HB := n7_; have BK279 := n8_; have GW279 := n9_; have GE279 := n10_; have NB247_279 := n11_; have NB279_247 := n12_; have NB248_279 := n13_; have NB279_248 := n14_; have NB267_279 := n15_; have NB279_267 := n16_; clear n0_ n1_ n2_ n3_ n4_ n5_ n6_ n7_ n8_ n9_ n10_ n11_ n12_ n13_ n14_ n15_ n16_; clear hb hbox hg; have hnb64 := NB279_247.out; have hnc64 := NB247_279.out; have hnb65 := NB279_248.out; have hnc65 := NB248_279.out; have hnb66 := NB279_267.out; have hnc66 := NB267_279.out; have hcz67_0 : w63.cell? ⟨gb279, 0, none⟩ = some (.int .i64 0) := (qAa BK279.out 0).trans rfl; have hcz67_1 : w63.cell? ⟨gb279, 1, none⟩ = some (.bool false) := (qAa BK279.out 1).trans rfl; have hcz67_2 : w63.cell? ⟨gb279, 2, none⟩ = some (.int .i64 0) := (qAa BK279.out 2).trans rfl; have hcz67_3 : w63.cell? ⟨gb279, 3, none⟩ = some (.string (⟨#[]⟩ : ByteArray)) := (qAa BK279.out 3).trans rfl; have hcz67_4 : w63.cell? ⟨gb279, 4, none⟩ = some (.slice none 0 0) := (qAa BK279.out 4).trans rfl; have hcz67_5 : w63.cell? ⟨gb279, 5, none⟩ = some (.slice none 0 0) := (qAa BK279.out 5).trans rfl; have hfz67_0 := qAb BK279.out 0; have hfz67_1 := qAb BK279.out 1; have hfz67_2 := qAb BK279.out 2; have hfz67_3 := qAb BK279.out 3; have hfz67_4 := qAb BK279.out 4; have hfz67_5 := qAb BK279.out 5; obtain ⟨Ao68, co68, eo68⟩ := Kd.V_slice HO274.out; subst eo68; obtain ⟨Ao69, co69, eo69⟩ := Kd.V_slice HO277.out; subst eo69))
           have n0_ : Aside0 (Kd.R k25 25 ((((((w63.setCell ⟨gb279, 0, none⟩ (.int .i64 t268)).setCell ⟨gb279, 1, none⟩ (.bool t269)).setCell ⟨gb279, 2, none⟩ (.int .i64 t270)).setCell ⟨gb279, 3, none⟩ (.string t271)).setCell ⟨gb279, 4, none⟩ (.slice Ao68 t272.length co68)).setCell ⟨gb279, 5, none⟩ (.slice Ao69 t275.length co69)) w.heap.size (fun k_ => some k_ ≠ (.slice Ao59 t263.length co59 : Value).ownBlock ∧ k_ ≠ gb247 ∧ k_ ≠ gb248 ∧ k_ ≠ gb267 ∧ k_ ≠ gb279) (.slice Ao58 t260.length co58) t260) := ⟨by (with_reducible repeat (first | apply Kd.R_alloc | apply Kd.R_drewN | apply Kd.R_drew)); exact Kd.R_mono (Kd.R_far (p := ⟨gb279, 5, none⟩) (Kd.R_far (p := ⟨gb279, 4, none⟩) (Kd.R_far (p := ⟨gb279, 3, none⟩) (Kd.R_far (p := ⟨gb279, 2, none⟩) (Kd.R_far (p := ⟨gb279, 1, none⟩) (Kd.R_far (p := ⟨gb279, 0, none⟩) (Kd.R_mono HO262.out (fun k_ hk => (⟨hk, hk.2⟩ : _ ∧ k_ ≠ gb279))) (fun _ hk => hk.2) (.int .i64 t268)) (fun _ hk => hk.2) (.bool t269)) (fun _ hk => hk.2) (.int .i64 t270)) (fun _ hk => hk.2) (.string t271)) (fun _ hk => hk.2) (.slice Ao68 t272.length co68)) (fun _ hk => hk.2) (.slice Ao69 t275.length co69)) (fun _ hk => ⟨hk.1.1.1, ⟨hk.1.1.2.1, ⟨hk.1.1.2.2.1, ⟨hk.1.1.2.2.2, hk.1.2⟩⟩⟩⟩)⟩
           have n1_ : Aside0 (Kd.R Kd.string 9 ((((((w63.setCell ⟨gb279, 0, none⟩ (.int .i64 t268)).setCell ⟨gb279, 1, none⟩ (.bool t269)).setCell ⟨gb279, 2, none⟩ (.int .i64 t270)).setCell ⟨gb279, 3, none⟩ (.string t271)).setCell ⟨gb279, 4, none⟩ (.slice Ao68 t272.length co68)).setCell ⟨gb279, 5, none⟩ (.slice Ao69 t275.length co69)) w.heap.size (fun _ => True) (.slice Ao59 t263.length co59) t263) := ⟨by (with_reducible repeat (first | apply Kd.R_alloc | apply Kd.R_drewN | apply Kd.R_drew)); exact Kd.R_mono (Kd.R_far (p := ⟨gb279, 5, none⟩) (Kd.R_far (p := ⟨gb279, 4, none⟩) (Kd.R_far (p := ⟨gb279, 3, none⟩) (Kd.R_far (p := ⟨gb279, 2, none⟩) (Kd.R_far (p := ⟨gb279, 1, none⟩) (Kd.R_far (p := ⟨gb279, 0, none⟩) (Kd.R_types HO265.out BK279.out (by decide)) (fun _ hk => hk.2) (.int .i64 t268)) (fun _ hk => hk.2) (.bool t269)) (fun _ hk => hk.2) (.int .i64 t270)) (fun _ hk => hk.2) (.string t271)) (fun _ hk => hk.2) (.slice Ao68 t272.length co68)) (fun _ hk => hk.2) (.slice Ao69 t275.length co69)) (fun _ hk => trivial)⟩
           have n2_ : Aside0 (Kd.V k25 25 ((((((w63.setCell ⟨gb279, 0, none⟩ (.int .i64 t268)).setCell ⟨gb279, 1, none⟩ (.bool t269)).setCell ⟨gb279, 2, none⟩ (.int .i64 t270)).setCell ⟨gb279, 3, none⟩ (.string t271)).setCell ⟨gb279, 4, none⟩ (.slice Ao68 t272.length co68)).setCell ⟨gb279, 5, none⟩ (.slice Ao69 t275.length co69)) w.heap.size (fun k_ => some k_ ≠ (.slice Ao58 t260.length co58 : Value).ownBlock ∧ some k_ ≠ (.slice Ao59 t263.length co59 : Value).ownBlock ∧ k_ ≠ gb247 ∧ k_ ≠ gb248 ∧ k_ ≠ gb267 ∧ k_ ≠ gb279) (.slice Ao68 t272.length co68) t272) := ⟨by (with_reducible repeat (first | apply Kd.V_alloc | apply Kd.V_drewN | apply Kd.V_drew)); exact Kd.V_mono (Kd.V_far (p := ⟨gb279, 5, none⟩) (Kd.V_far (p := ⟨gb279, 4, none⟩) (Kd.V_far (p := ⟨gb279, 3, none⟩) (Kd.V_far (p := ⟨gb279, 2, none⟩) (Kd.V_far (p := ⟨gb279, 1, none⟩) (Kd.V_far (p := ⟨gb279, 0, none⟩) (Kd.V_mono HO274.out (fun k_ hk => (⟨hk, hk.2⟩ : _ ∧ k_ ≠ gb279))) (fun _ hk => hk.2) (.int .i64 t268)) (fun _ hk => hk.2) (.bool t269)) (fun _ hk => hk.2) (.int .i64 t270)) (fun _ hk => hk.2) (.string t271)) (fun _ hk => hk.2) (.slice Ao68 t272.length co68)) (fun _ hk => hk.2) (.slice Ao69 t275.length co69)) (fun _ hk => ⟨hk.1.1.1, ⟨hk.1.1.2.1, ⟨hk.1.1.2.2.1, ⟨hk.1.1.2.2.2.1, ⟨hk.1.1.2.2.2.2, hk.1.2⟩⟩⟩⟩⟩)⟩
           have n3_ : Aside0 (Kd.V Kd.string 9 ((((((w63.setCell ⟨gb279, 0, none⟩ (.int .i64 t268)).setCell ⟨gb279, 1, none⟩ (.bool t269)).setCell ⟨gb279, 2, none⟩ (.int .i64 t270)).setCell ⟨gb279, 3, none⟩ (.string t271)).setCell ⟨gb279, 4, none⟩ (.slice Ao68 t272.length co68)).setCell ⟨gb279, 5, none⟩ (.slice Ao69 t275.length co69)) w.heap.size (fun k_ => some k_ ≠ (.slice Ao58 t260.length co58 : Value).ownBlock ∧ some k_ ≠ (.slice Ao59 t263.length co59 : Value).ownBlock ∧ k_ ≠ gb247 ∧ k_ ≠ gb248 ∧ k_ ≠ gb267 ∧ k_ ≠ gb279) (.slice Ao69 t275.length co69) t275) := ⟨by (with_reducible repeat (first | apply Kd.V_alloc | apply Kd.V_drewN | apply Kd.V_drew)); exact Kd.V_mono (Kd.V_far (p := ⟨gb279, 5, none⟩) (Kd.V_far (p := ⟨gb279, 4, none⟩) (Kd.V_far (p := ⟨gb279, 3, none⟩) (Kd.V_far (p := ⟨gb279, 2, none⟩) (Kd.V_far (p := ⟨gb279, 1, none⟩) (Kd.V_far (p := ⟨gb279, 0, none⟩) (Kd.V_mono HO277.out (fun k_ hk => (⟨hk, hk.2⟩ : _ ∧ k_ ≠ gb279))) (fun _ hk => hk.2) (.int .i64 t268)) (fun _ hk => hk.2) (.bool t269)) (fun _ hk => hk.2) (.int .i64 t270)) (fun _ hk => hk.2) (.string t271)) (fun _ hk => hk.2) (.slice Ao68 t272.length co68)) (fun _ hk => hk.2) (.slice Ao69 t275.length co69)) (fun _ hk => ⟨hk.1.1.1, ⟨hk.1.1.2.1, ⟨hk.1.1.2.2.1, ⟨hk.1.1.2.2.2.1, ⟨hk.1.1.2.2.2.2, hk.1.2⟩⟩⟩⟩⟩)⟩
           have n4_ : Aside0 (((((((w63.setCell ⟨gb279, 0, none⟩ (.int .i64 t268)).setCell ⟨gb279, 1, none⟩ (.bool t269)).setCell ⟨gb279, 2, none⟩ (.int .i64 t270)).setCell ⟨gb279, 3, none⟩ (.string t271)).setCell ⟨gb279, 4, none⟩ (.slice Ao68 t272.length co68)).setCell ⟨gb279, 5, none⟩ (.slice Ao69 t275.length co69)).heap[gb247]? = some (.cells #[.int .i64 a0_0, .bool a0_1, .int .i64 a0_2, .string a0_3, .slice A0_4 l0_4.length c0_4, .slice A0_5 l0_5.length c0_5] 25 (0, 0))) := ⟨by (with_reducible repeat (first | refine qAg ?_ _ | refine qAh ?_ | refine blk_alloc ?_ _)); refine qAw ?_ NB247_279.out _; (with_reducible repeat (first | refine qAg ?_ _ | refine qAh ?_ | refine blk_alloc ?_ _)); refine qAw ?_ NB247_279.out _; (with_reducible repeat (first | refine qAg ?_ _ | refine qAh ?_ | refine blk_alloc ?_ _)); refine qAw ?_ NB247_279.out _; (with_reducible repeat (first | refine qAg ?_ _ | refine qAh ?_ | refine blk_alloc ?_ _)); refine qAw ?_ NB247_279.out _; (with_reducible repeat (first | refine qAg ?_ _ | refine qAh ?_ | refine blk_alloc ?_ _)); refine qAw ?_ NB247_279.out _; (with_reducible repeat (first | refine qAg ?_ _ | refine qAh ?_ | refine blk_alloc ?_ _)); refine qAw ?_ NB247_279.out _; (with_reducible repeat (first | refine qAg ?_ _ | refine qAh ?_ | refine blk_alloc ?_ _)); exact BK247.out⟩
           have n5_ : Aside0 (((((((w63.setCell ⟨gb279, 0, none⟩ (.int .i64 t268)).setCell ⟨gb279, 1, none⟩ (.bool t269)).setCell ⟨gb279, 2, none⟩ (.int .i64 t270)).setCell ⟨gb279, 3, none⟩ (.string t271)).setCell ⟨gb279, 4, none⟩ (.slice Ao68 t272.length co68)).setCell ⟨gb279, 5, none⟩ (.slice Ao69 t275.length co69)).heap[gb248]? = some (.cells #[.int .i64 a1_0, .bool a1_1, .int .i64 a1_2, .string a1_3, .slice A1_4 l1_4.length c1_4, .slice A1_5 l1_5.length c1_5] 25 (0, 0))) := ⟨by (with_reducible repeat (first | refine qAg ?_ _ | refine qAh ?_ | refine blk_alloc ?_ _)); refine qAw ?_ NB248_279.out _; (with_reducible repeat (first | refine qAg ?_ _ | refine qAh ?_ | refine blk_alloc ?_ _)); refine qAw ?_ NB248_279.out _; (with_reducible repeat (first | refine qAg ?_ _ | refine qAh ?_ | refine blk_alloc ?_ _)); refine qAw ?_ NB248_279.out _; (with_reducible repeat (first | refine qAg ?_ _ | refine qAh ?_ | refine blk_alloc ?_ _)); refine qAw ?_ NB248_279.out _; (with_reducible repeat (first | refine qAg ?_ _ | refine qAh ?_ | refine blk_alloc ?_ _)); refine qAw ?_ NB248_279.out _; (with_reducible repeat (first | refine qAg ?_ _ | refine qAh ?_ | refine blk_alloc ?_ _)); refine qAw ?_ NB248_279.out _; (with_reducible repeat (first | refine qAg ?_ _ | refine qAh ?_ | refine blk_alloc ?_ _)); exact BK248.out⟩
           have n6_ : Aside0 (((((((w63.setCell ⟨gb279, 0, none⟩ (.int .i64 t268)).setCell ⟨gb279, 1, none⟩ (.bool t269)).setCell ⟨gb279, 2, none⟩ (.int .i64 t270)).setCell ⟨gb279, 3, none⟩ (.string t271)).setCell ⟨gb279, 4, none⟩ (.slice Ao68 t272.length co68)).setCell ⟨gb279, 5, none⟩ (.slice Ao69 t275.length co69)).heap[gb267]? = some (.cells #[.int .i64 t256, .bool t257, .int .i64 t258, .string t259, .slice Ao58 t260.length co58, .slice Ao59 t263.length co59] 25 (0, 0))) := ⟨by (with_reducible repeat (first | refine qAg ?_ _ | refine qAh ?_ | refine blk_alloc ?_ _)); refine qAw ?_ NB267_279.out _; (with_reducible repeat (first | refine qAg ?_ _ | refine qAh ?_ | refine blk_alloc ?_ _)); refine qAw ?_ NB267_279.out _; (with_reducible repeat (first | refine qAg ?_ _ | refine qAh ?_ | refine blk_alloc ?_ _)); refine qAw ?_ NB267_279.out _; (with_reducible repeat (first | refine qAg ?_ _ | refine qAh ?_ | refine blk_alloc ?_ _)); refine qAw ?_ NB267_279.out _; (with_reducible repeat (first | refine qAg ?_ _ | refine qAh ?_ | refine blk_alloc ?_ _)); refine qAw ?_ NB267_279.out _; (with_reducible repeat (first | refine qAg ?_ _ | refine qAh ?_ | refine blk_alloc ?_ _)); refine qAw ?_ NB267_279.out _; (with_reducible repeat (first | refine qAg ?_ _ | refine qAh ?_ | refine blk_alloc ?_ _)); exact BK267.out⟩
           have n7_ : Aside0 (((((((w63.setCell ⟨gb279, 0, none⟩ (.int .i64 t268)).setCell ⟨gb279, 1, none⟩ (.bool t269)).setCell ⟨gb279, 2, none⟩ (.int .i64 t270)).setCell ⟨gb279, 3, none⟩ (.string t271)).setCell ⟨gb279, 4, none⟩ (.slice Ao68 t272.length co68)).setCell ⟨gb279, 5, none⟩ (.slice Ao69 t275.length co69)).heap[gb279]? = some (.cells #[.int .i64 t268, .bool t269, .int .i64 t270, .string t271, .slice Ao68 t272.length co68, .slice Ao69 t275.length co69] 25 (0, 0))) := ⟨by (with_reducible repeat (first | refine qAg ?_ _ | refine qAh ?_ | refine blk_alloc ?_ _)); refine qAr (cs := #[.int .i64 t268, .bool t269, .int .i64 t270, .string t271, .slice Ao68 t272.length co68, .slice none 0 0]) ?_ 5 _ rfl; (with_reducible repeat (first | refine qAg ?_ _ | refine qAh ?_ | refine blk_alloc ?_ _)); refine qAr (cs := #[.int .i64 t268, .bool t269, .int .i64 t270, .string t271, .slice none 0 0, .slice none 0 0]) ?_ 4 _ rfl; (with_reducible repeat (first | refine qAg ?_ _ | refine qAh ?_ | refine blk_alloc ?_ _)); refine qAr (cs := #[.int .i64 t268, .bool t269, .int .i64 t270, .string (⟨#[]⟩ : ByteArray), .slice none 0 0, .slice none 0 0]) ?_ 3 _ rfl; (with_reducible repeat (first | refine qAg ?_ _ | refine qAh ?_ | refine blk_alloc ?_ _)); refine qAr (cs := #[.int .i64 t268, .bool t269, .int .i64 0, .string (⟨#[]⟩ : ByteArray), .slice none 0 0, .slice none 0 0]) ?_ 2 _ rfl; (with_reducible repeat (first | refine qAg ?_ _ | refine qAh ?_ | refine blk_alloc ?_ _)); refine qAr (cs := #[.int .i64 t268, .bool false, .int .i64 0, .string (⟨#[]⟩ : ByteArray), .slice none 0 0, .slice none 0 0]) ?_ 1 _ rfl; (with_reducible repeat (first | refine qAg ?_ _ | refine qAh ?_ | refine blk_alloc ?_ _)); refine qAr (cs := #[.int .i64 0, .bool false, .int .i64 0, .string (⟨#[]⟩ : ByteArray), .slice none 0 0, .slice none 0 0]) ?_ 0 _ rfl; (with_reducible repeat (first | refine qAg ?_ _ | refine qAh ?_ | refine blk_alloc ?_ _)); exact BK279.out⟩
           have n8_ : Aside0 (Below w.heap.size w ((((((w63.setCell ⟨gb279, 0, none⟩ (.int .i64 t268)).setCell ⟨gb279, 1, none⟩ (.bool t269)).setCell ⟨gb279, 2, none⟩ (.int .i64 t270)).setCell ⟨gb279, 3, none⟩ (.string t271)).setCell ⟨gb279, 4, none⟩ (.slice Ao68 t272.length co68)).setCell ⟨gb279, 5, none⟩ (.slice Ao69 t275.length co69))) := ⟨by repeat (first | (with_reducible first | exact HB.out | apply qAd | apply qAc | apply qAe | refine qAf ?_ GE247.out | refine qAf ?_ GE248.out | refine qAf ?_ GE267.out | refine qAf ?_ GE279.out) | exact HB.out)⟩
           (try clear HO262)
           (try clear HO265)
           (try clear HO274)
           (try clear HO277)
           (try clear BK247)
           (try clear BK248)
           (try clear BK267)
           (try clear BK279)
           (try clear HB)
           generalize ((((((w63.setCell ⟨gb279, 0, none⟩ (.int .i64 t268)).setCell ⟨gb279, 1, none⟩ (.bool t269)).setCell ⟨gb279, 2, none⟩ (.int .i64 t270)).setCell ⟨gb279, 3, none⟩ (.string t271)).setCell ⟨gb279, 4, none⟩ (.slice Ao68 t272.length co68)).setCell ⟨gb279, 5, none⟩ (.slice Ao69 t275.length co69)) = w70 at n0_ n1_ n2_ n3_ n4_ n5_ n6_ n7_ n8_ ⊢
           have HO262 := n0_
           have HO265 := n1_
           have HO274 := n2_
           have HO277 := n3_
           have BK247 := n4_
           have BK248 := n5_
           have BK267 := n6_
           have BK279 := n7_
           have HB := n8_
           clear n0_ n1_ n2_ n3_ n4_ n5_ n6_ n7_ n8_
           have n0_ := Aside0.mk (Kd.R_drew HO262.out)
           have n1_ := Aside0.mk (Kd.R_drew HO265.out)
           have n2_ := Aside0.mk (Kd.V_drew HO274.out)
           have n3_ := Aside0.mk (Kd.V_drew HO277.out)
           have n4_ := Aside0.mk (qAh BK247.out)
           have n5_ := Aside0.mk (qAh BK248.out)
           have n6_ := Aside0.mk (qAh BK267.out)
           have n7_ := Aside0.mk (qAh BK279.out)
           have n8_ := Aside0.mk (qAe HB.out)
           clear HO262
           clear HO265
           clear HO274
           clear HO277
           clear BK247
           clear BK248
           clear BK267
           clear BK279
           clear HB
           have HO262 := n0_
           have HO265 := n1_
           have HO274 := n2_
           have HO277 := n3_
           have BK247 := n4_
           have BK248 := n5_
           have BK267 := n6_
           have BK279 := n7_
           have HB := n8_
           clear n0_ n1_ n2_ n3_ n4_ n5_ n6_ n7_ n8_
           refine start_ (n := 46) (S := fun w' => w'.cell? ⟨gb247, 0, none⟩ = some (.int .i64 a0_0) ∧ w'.cell? ⟨gb247, 1, none⟩ = some (.bool a0_1) ∧ w'.cell? ⟨gb247, 2, none⟩ = some (.int .i64 a0_2) ∧ w'.cell? ⟨gb247, 3, none⟩ = some (.string a0_3) ∧ w'.cell? ⟨gb247, 4, none⟩ = some (.slice A0_4 l0_4.length c0_4) ∧ w'.cell? ⟨gb247, 5, none⟩ = some (.slice A0_5 l0_5.length c0_5) ∧ w'.cell? ⟨gb248, 0, none⟩ = some (.int .i64 a1_0) ∧ w'.cell? ⟨gb248, 1, none⟩ = some (.bool a1_1) ∧ w'.cell? ⟨gb248, 2, none⟩ = some (.int .i64 a1_2) ∧ w'.cell? ⟨gb248, 3, none⟩ = some (.string a1_3) ∧ w'.cell? ⟨gb248, 4, none⟩ = some (.slice A1_4 l1_4.length c1_4) ∧ w'.cell? ⟨gb248, 5, none⟩ = some (.slice A1_5 l1_5.length c1_5) ∧ w'.cell? ⟨gb267, 0, none⟩ = some (.int .i64 t256) ∧ w'.cell? ⟨gb267, 1, none⟩ = some (.bool t257) ∧ w'.cell? ⟨gb267, 2, none⟩ = some (.int .i64 t258) ∧ w'.cell? ⟨gb267, 3, none⟩ = some (.string t259) ∧ w'.cell? ⟨gb267, 4, none⟩ = some (.slice Ao58 t260.length co58) ∧ w'.cell? ⟨gb267, 5, none⟩ = some (.slice Ao59 t263.length co59) ∧ w'.cell? ⟨gb279, 0, none⟩ = some (.int .i64 t268) ∧ w'.cell? ⟨gb279, 1, none⟩ = some (.bool t269) ∧ w'.cell? ⟨gb279, 2, none⟩ = some (.int .i64 t270) ∧ w'.cell? ⟨gb279, 3, none⟩ = some (.string t271) ∧ w'.cell? ⟨gb279, 4, none⟩ = some (.slice Ao68 t272.length co68) ∧ w'.cell? ⟨gb279, 5, none⟩ = some (.slice Ao69 t275.length co69)) (ds := []) #[false, false, false, false, false, false, false, false, false, false, false, false, false, false, false, false, false, false, false, false, false, false, false, false, false, false, false, false, false, false, false, false, false, false, false, false, false, false, false, false, false, false, false, false, false, false] (by kernel_rfl) rfl rfl ⟨(qAa BK247.out 0).trans rfl, (qAa BK247.out 1).trans rfl, (qAa BK247.out 2).trans rfl, (qAa BK247.out 3).trans rfl, (qAa BK247.out 4).trans rfl, (qAa BK247.out 5).trans rfl, (qAa BK248.out 0).trans rfl, (qAa BK248.out 1).trans rfl, (qAa BK248.out 2).trans rfl, (qAa BK248.out 3).trans rfl, (qAa BK248.out 4).trans rfl, (qAa BK248.out 5).trans rfl, (qAa BK267.out 0).trans rfl, (qAa BK267.out 1).trans rfl, (qAa BK267.out 2).trans rfl, (qAa BK267.out 3).trans rfl, (qAa BK267.out 4).trans rfl, (qAa BK267.out 5).trans rfl, (qAa BK279.out 0).trans rfl, (qAa BK279.out 1).trans rfl, (qAa BK279.out 2).trans rfl, (qAa BK279.out 3).trans rfl, (qAa BK279.out 4).trans rfl, (qAa BK279.out 5).trans rfl⟩ (fun hHeld => ?_); refine qBz hogsheadlaw15_ValueLays.tab7 hogsheadlaw15_ValueLays.bits7 (fun HT_ HW_ => ?_)
           generalize w70.drew = w71 at HO262 HO265 HO274 HO277 BK247 BK248 BK267 BK279 HB hHeld ⊢
           refine pure_ (i := 0) (N := some 49) (v := ?_) (a' := ?_) #[true, false, false, false, false, false, false, false, false, false, false, false, false, false, false, false, false, false, false, false, false, false, false, false, false, false, false, false, false, false, false, false, false, false, false, false, false, false, false, false, false, false, false, false, false, false] rfl rfl (any_of HT_.out (by kernel_rfl)) (fun _ _ _ h => h) (Or.inl ⟨by rfl, ?_⟩) ?_ ?_
           rotate_left
           ·intro w'
            go_simp
            with_reducible rfl
           rotate_left
           ·simp only [Act.put, List.setIfInBounds_toArray, List.set_cons_zero, List.set_cons_succ, i64_w, i32_w]
            rfl
           refine pure_ (i := 1) (N := some 50) (v := ?_) (a' := ?_) #[true, true, false, false, false, false, false, false, false, false, false, false, false, false, false, false, false, false, false, false, false, false, false, false, false, false, false, false, false, false, false, false, false, false, false, false, false, false, false, false, false, false, false, false, false, false] rfl rfl (any_of HT_.out (by kernel_rfl)) (fun _ _ _ h => h) (Or.inl ⟨by rfl, ?_⟩) ?_ ?_
           rotate_left
           ·intro w'
            go_simp
            with_reducible rfl
           rotate_left
           ·simp only [Act.put, List.setIfInBounds_toArray, List.set_cons_zero, List.set_cons_succ, i64_w, i32_w]
            rfl
           refine pure_ (i := 2) (N := some 51) (v := ?_) (a' := ?_) #[true, true, true, false, false, false, false, false, false, false, false, false, false, false, false, false, false, false, false, false, false, false, false, false, false, false, false, false, false, false, false, false, false, false, false, false, false, false, false, false, false, false, false, false, false, false] rfl rfl (any_of HT_.out (by kernel_rfl)) (fun _ _ _ h => h) (Or.inl ⟨by rfl, ?_⟩) ?_ ?_
           rotate_left
           ·intro w'
            go_simp
            with_reducible rfl
           rotate_left
           ·simp only [Act.put, List.setIfInBounds_toArray, List.set_cons_zero, List.set_cons_succ, i64_w, i32_w]
            rfl
           refine pure_ (i := 3) (N := some 52) (v := ?_) (a' := ?_) #[true, true, true, true, false, false, false, false, false, false, false, false, false, false, false, false, false, false, false, false, false, false, false, false, false, false, false, false, false, false, false, false, false, false, false, false, false, false, false, false, false, false, false, false, false, false] rfl rfl (any_of HT_.out (by kernel_rfl)) (fun _ _ _ h => h) (Or.inl ⟨by rfl, ?_⟩) ?_ ?_
           rotate_left
           ·intro w'
            go_simp
            with_reducible rfl
           rotate_left
           ·simp only [Act.put, List.setIfInBounds_toArray, List.set_cons_zero, List.set_cons_succ, i64_w, i32_w]
            rfl
           refine pure_ (i := 4) (N := some 53) (v := ?_) (a' := ?_) #[true, true, true, true, true, false, false, false, false, false, false, false, false, false, false, false, false, false, false, false, false, false, false, false, false, false, false, false, false, false, false, false, false, false, false, false, false, false, false, false, false, false, false, false, false, false] rfl rfl (any_of HT_.out (by kernel_rfl)) (fun _ _ _ h => h) (Or.inl ⟨by rfl, ?_⟩) ?_ ?_
           rotate_left
           ·intro w'
            go_simp
            with_reducible rfl
           rotate_left
           ·simp only [Act.put, List.setIfInBounds_toArray, List.set_cons_zero, List.set_cons_succ, i64_w, i32_w]
            rfl
           refine pure_ (i := 6) (N := some 55) (v := ?_) (a' := ?_) #[true, true, true, true, true, false, true, false, false, false, false, false, false, false, false, false, false, false, false, false, false, false, false, false, false, false, false, false, false, false, false, false, false, false, false, false, false, false, false, false, false, false, false, false, false, false] rfl rfl (any_of HT_.out (by kernel_rfl)) (fun _ _ _ h => h) (Or.inl ⟨by rfl, ?_⟩) ?_ ?_
           rotate_left
           ·intro w'
            go_simp
            with_reducible rfl
           rotate_left
           ·simp only [Act.put, List.setIfInBounds_toArray, List.set_cons_zero, List.set_cons_succ, i64_w, i32_w]
            rfl
           refine one_ (i := 5) (N := some 54) #[true, true, true, true, true, true, true, false, false, false, false, false, false, false, false, false, false, false, false, false, false, false, false, false, false, false, false, false, false, false, false, false, false, false, false, false, false, false, false, false, false, false, false, false, false, false] rfl rfl (one_of HT_.out (by kernel_rfl)) (by decide) (fun K hK => ?_)
           refine goes_ Tryd.func20 (by kernel_rfl) rfl #[.int .i64 t253] (by rfl) rfl rfl (by (try simp only [List.map_toArray, List.map_cons, List.map_nil]); first | done | rfl | (simp only [List.length_drop, List.length_take]; rfl)) ?_
           with_reducible refine (hogsheadlaw0_Num.calls t253 t280 _ A32.out).mono ?_
           rintro e w' ⟨rfl, ⟨nd, rfl⟩⟩
           refine ⟨_, rfl, ?_⟩
           refine hK.out _ _ ⟨(qAa BK247.out 0).trans rfl, (qAa BK247.out 1).trans rfl, (qAa BK247.out 2).trans rfl, (qAa BK247.out 3).trans rfl, (qAa BK247.out 4).trans rfl, (qAa BK247.out 5).trans rfl, (qAa BK248.out 0).trans rfl, (qAa BK248.out 1).trans rfl, (qAa BK248.out 2).trans rfl, (qAa BK248.out 3).trans rfl, (qAa BK248.out 4).trans rfl, (qAa BK248.out 5).trans rfl, (qAa BK267.out 0).trans rfl, (qAa BK267.out 1).trans rfl, (qAa BK267.out 2).trans rfl, (qAa BK267.out 3).trans rfl, (qAa BK267.out 4).trans rfl, (qAa BK267.out 5).trans rfl, (qAa BK279.out 0).trans rfl, (qAa BK279.out 1).trans rfl, (qAa BK279.out 2).trans rfl, (qAa BK279.out 3).trans rfl, (qAa BK279.out 4).trans rfl, (qAa BK279.out 5).trans rfl⟩ (fun hHeld => ?_)
           clear hK K
           refine norm_ (a' := ?_) ?_ ?_
           rotate_left
           ·show Act.put _ (some 54) _ = _
            simp only [Act.put, List.setIfInBounds_toArray, List.set_cons_zero, List.set_cons_succ, i64_w, i32_w]
            rfl
           refine pure_ (i := 7) (N := some 56) (v := ?_) (a' := ?_) #[true, true, true, true, true, true, true, true, false, false, false, false, false, false, false, false, false, false, false, false, false, false, false, false, false, false, false, false, false, false, false, false, false, false, false, false, false, false, false, false, false, false, false, false, false, false] rfl rfl (any_of HT_.out (by kernel_rfl)) (fun _ _ _ h => h) (Or.inl ⟨by rfl, ?_⟩) ?_ ?_
           rotate_left
           ·intro w'
            go_simp
            with_reducible rfl
           rotate_left
           ·simp only [Act.put, List.setIfInBounds_toArray, List.set_cons_zero, List.set_cons_succ, i64_w, i32_w]
            rfl
           refine pure_ (i := 8) (N := some 57) (v := ?_) (a' := ?_) #[true, true, true, true, true, true, true, true, true, false, false, false, false, false, false, false, false, false, false, false, false, false, false, false, false, false, false, false, false, false, false, false, false, false, false, false, false, false, false, false, false, false, false, false, false, false] rfl rfl (any_of HT_.out (by kernel_rfl)) (fun _ _ _ h => h) (Or.inl ⟨by rfl, ?_⟩) ?_ ?_
           rotate_left
           ·intro w'
            go_simp
            with_reducible rfl
           rotate_left
           ·simp only [Act.put, List.setIfInBounds_toArray, List.set_cons_zero, List.set_cons_succ, i64_w, i32_w]
            rfl
           refine pure_ (i := 9) (N := some 58) (v := ?_) (a' := ?_) #[true, true, true, true, true, true, true, true, true, true, false, false, false, false, false, false, false, false, false, false, false, false, false, false, false, false, false, false, false, false, false, false, false, false, false, false, false, false, false, false, false, false, false, false, false, false] rfl rfl (any_of HT_.out (by kernel_rfl)) (fun _ _ _ h => h) (Or.inl ⟨by rfl, ?_⟩) ?_ ?_
           rotate_left
           ·intro w'
            go_simp
            with_reducible rfl
           rotate_left
           ·simp only [Act.put, List.setIfInBounds_toArray, List.set_cons_zero, List.set_cons_succ, i64_w, i32_w]
            rfl
           refine take_ (i := 10) (N := some 59) (v := ?_) (a' := ?_) #[true, true, true, true, true, true, true, true, true, true, true, false, false, false, false, false, false, false, false, false, false, false, false, false, false, false, false, false, false, false, false, false, false, false, false, false, false, false, false, false, false, false, false, false, false, false] rfl rfl (qA4 HT_.out HW_.out (by kernel_rfl)) (fun _ _ _ h => h) (Or.inl ⟨by rfl, ?_⟩) hHeld ?_ ?_
           rotate_left
           ·rintro w' ⟨s0, s1, s2, s3, s4, s5, s6, s7, s8, s9, s10, s11, s12, s13, s14, s15, s16, s17, s18, s19, s20, s21, s22, s23⟩
            go_simp
            with_reducible rfl
           rotate_left
           ·simp only [Act.put, List.setIfInBounds_toArray, List.set_cons_zero, List.set_cons_succ, i64_w, i32_w]
            rfl
           refine take_ (i := 12) (N := some 61) (v := ?_) (a' := ?_) #[true, true, true, true, true, true, true, true, true, true, true, false, true, false, false, false, false, false, false, false, false, false, false, false, false, false, false, false, false, false, false, false, false, false, false, false, false, false, false, false, false, false, false, false, false, false] rfl rfl (qA4 HT_.out HW_.out (by kernel_rfl)) (fun _ _ _ h => h) (Or.inl ⟨by rfl, ?_⟩) hHeld ?_ ?_
           rotate_left
           ·rintro w' ⟨s0, s1, s2, s3, s4, s5, s6, s7, s8, s9, s10, s11, s12, s13, s14, s15, s16, s17, s18, s19, s20, s21, s22, s23⟩
            go_simp
            with_reducible rfl
           rotate_left
           ·simp only [Act.put, List.setIfInBounds_toArray, List.set_cons_zero, List.set_cons_succ, i64_w, i32_w]
            rfl
           refine one_ (i := 11) (N := some 60) #[true, true, true, true, true, true, true, true, true, true, true, true, true, false, false, false, false, false, false, false, false, false, false, false, false, false, false, false, false, false, false, false, false, false, false, false, false, false, false, false, false, false, false, false, false, false] rfl rfl (one_of HT_.out (by kernel_rfl)) (by decide) (fun K hK => ?_)
           refine goes_ Tryd.func21 (by kernel_rfl) rfl #[.agg #[.int .i64 a0_0, .bool a0_1, .int .i64 a0_2, .string a0_3, .slice A0_4 l0_4.length c0_4, .slice A0_5 l0_5.length c0_5]] (by rfl) rfl rfl (by (try simp only [List.map_toArray, List.map_cons, List.map_nil]); first | done | rfl | (simp only [List.length_drop, List.length_take]; rfl)) ?_
           with_reducible refine (value_May.calls a0_0 a0_1 a0_2 a0_3 _ _ l0_4 _ _ l0_5 t281 _ ?side1 ?side2 ?side3 ?side4 A34.out).mono ?_
           (case side1 => repeat (first | exact (Kd.C_below HR0_4.out (by repeat (first | (with_reducible first | exact HB.out | apply qAd | apply qAc | apply qAe | refine qAf ?_ GE247.out | refine qAf ?_ GE248.out | refine qAf ?_ GE267.out | refine qAf ?_ GE279.out) | exact HB.out))) | (with_reducible refine Kd.C_alloc ?_ _) | (with_reducible refine Kd.C_drewN ?_ _) | (with_reducible refine Kd.C_drew ?_)))
           (case side2 => exact HC0_4.out)
           (case side3 => repeat (first | exact (Kd.C_below HR0_5.out (by repeat (first | (with_reducible first | exact HB.out | apply qAd | apply qAc | apply qAe | refine qAf ?_ GE247.out | refine qAf ?_ GE248.out | refine qAf ?_ GE267.out | refine qAf ?_ GE279.out) | exact HB.out))) | (with_reducible refine Kd.C_alloc ?_ _) | (with_reducible refine Kd.C_drewN ?_ _) | (with_reducible refine Kd.C_drew ?_)))
           (case side4 => exact HC0_5.out)
           rintro e w72 ⟨rfl, hb⟩
           refine ⟨_, rfl, ?_⟩
           have n0_ := Aside0.mk (Kd.R_below (by (with_reducible repeat (first | apply Kd.R_alloc | apply Kd.R_drewN | apply Kd.R_drew)); exact HO262.out) hb)
           have n1_ := Aside0.mk (Kd.R_below (by (with_reducible repeat (first | apply Kd.R_alloc | apply Kd.R_drewN | apply Kd.R_drew)); exact HO265.out) hb)
           have n2_ := Aside0.mk (Kd.V_below (by (with_reducible repeat (first | apply Kd.V_alloc | apply Kd.V_drewN | apply Kd.V_drew)); exact HO274.out) hb)
           have n3_ := Aside0.mk (Kd.V_below (by (with_reducible repeat (first | apply Kd.V_alloc | apply Kd.V_drewN | apply Kd.V_drew)); exact HO277.out) hb)
           have n4_ := Aside0.mk (qAi (g := gb247) (o := .cells #[.int .i64 a0_0, .bool a0_1, .int .i64 a0_2, .string a0_3, .slice A0_4 l0_4.length c0_4, .slice A0_5 l0_5.length c0_5] 25 (0, 0)) (by (with_reducible repeat (first | refine qAg ?_ _ | refine qAh ?_ | refine blk_alloc ?_ _)); exact BK247.out) hb)
           have n5_ := Aside0.mk (qAi (g := gb248) (o := .cells #[.int .i64 a1_0, .bool a1_1, .int .i64 a1_2, .string a1_3, .slice A1_4 l1_4.length c1_4, .slice A1_5 l1_5.length c1_5] 25 (0, 0)) (by (with_reducible repeat (first | refine qAg ?_ _ | refine qAh ?_ | refine blk_alloc ?_ _)); exact BK248.out) hb)
           have n6_ := Aside0.mk (qAi (g := gb267) (o := .cells #[.int .i64 t256, .bool t257, .int .i64 t258, .string t259, .slice Ao58 t260.length co58, .slice Ao59 t263.length co59] 25 (0, 0)) (by (with_reducible repeat (first | refine qAg ?_ _ | refine qAh ?_ | refine blk_alloc ?_ _)); exact BK267.out) hb)
           have n7_ := Aside0.mk (qAi (g := gb279) (o := .cells #[.int .i64 t268, .bool t269, .int .i64 t270, .string t271, .slice Ao68 t272.length co68, .slice Ao69 t275.length co69] 25 (0, 0)) (by (with_reducible repeat (first | refine qAg ?_ _ | refine qAh ?_ | refine blk_alloc ?_ _)); exact BK279.out) hb)
           have n8_ := Aside0.mk (qAj (by repeat (first | (with_reducible first | exact HB.out | apply qAd | apply qAc | apply qAe | refine qAf ?_ GE247.out | refine qAf ?_ GE248.out | refine qAf ?_ GE267.out | refine qAf ?_ GE279.out) | exact HB.out)) hb)
           clear HO262
           clear HO265
           clear HO274
           clear HO277
           clear BK247
           clear BK248
           clear BK267
           clear BK279
           clear HB
           have HO262 := n0_
           have HO265 := n1_
           have HO274 := n2_
           have HO277 := n3_
           have BK247 := n4_
           have BK248 := n5_
           have BK267 := n6_
           have BK279 := n7_
           have HB := n8_
           clear n0_ n1_ n2_ n3_ n4_ n5_ n6_ n7_ n8_
           (try clear hb)
           (try clear hb2)
           (try clear hk)
           (try clear hi)
           refine hK.out _ _ ⟨(qAa BK247.out 0).trans rfl, (qAa BK247.out 1).trans rfl, (qAa BK247.out 2).trans rfl, (qAa BK247.out 3).trans rfl, (qAa BK247.out 4).trans rfl, (qAa BK247.out 5).trans rfl, (qAa BK248.out 0).trans rfl, (qAa BK248.out 1).trans rfl, (qAa BK248.out 2).trans rfl, (qAa BK248.out 3).trans rfl, (qAa BK248.out 4).trans rfl, (qAa BK248.out 5).trans rfl, (qAa BK267.out 0).trans rfl, (qAa BK267.out 1).trans rfl, (qAa BK267.out 2).trans rfl, (qAa BK267.out 3).trans rfl, (qAa BK267.out 4).trans rfl, (qAa BK267.out 5).trans rfl, (qAa BK279.out 0).trans rfl, (qAa BK279.out 1).trans rfl, (qAa BK279.out 2).trans rfl, (qAa BK279.out 3).trans rfl, (qAa BK279.out 4).trans rfl, (qAa BK279.out 5).trans rfl⟩ (fun hHeld => ?_)
           clear hK K
           refine norm_ (a' := ?_) ?_ ?_
           rotate_left
           ·show Act.put _ (some 60) _ = _
            simp only [Act.put, List.setIfInBounds_toArray, List.set_cons_zero, List.set_cons_succ, i64_w, i32_w]
            rfl
           refine one_ (i := 13) (N := some 62) #[true, true, true, true, true, true, true, true, true, true, true, true, true, true, false, false, false, false, false, false, false, false, false, false, false, false, false, false, false, false, false, false, false, false, false, false, false, false, false, false, false, false, false, false, false, false] rfl rfl (one_of HT_.out (by kernel_rfl)) (by decide) (fun K hK => ?_)
           refine goes_ Tryd.func22 (by kernel_rfl) rfl #[.agg #[.int .i64 a0_0, .bool a0_1, .int .i64 a0_2, .string a0_3, .slice A0_4 l0_4.length c0_4, .slice A0_5 l0_5.length c0_5]] (by rfl) rfl rfl (by (try simp only [List.map_toArray, List.map_cons, List.map_nil]); first | done | rfl | (simp only [List.length_drop, List.length_take]; rfl)) ?_
           with_reducible refine (hogsheadref15_May.calls kj3 a0_0 a0_1 a0_2 a0_3 _ _ l0_4 _ _ l0_5 t282 _ ?side1 ?side2 ?side3 ?side4 A35.out).mono ?_
           (case side1 => repeat (first | exact (Kd.C_below HR0_4.out HB.out) | (with_reducible refine Kd.C_alloc ?_ _) | (with_reducible refine Kd.C_drewN ?_ _) | (with_reducible refine Kd.C_drew ?_)))
           (case side2 => exact HC0_4.out)
           (case side3 => repeat (first | exact (Kd.C_below HR0_5.out HB.out) | (with_reducible refine Kd.C_alloc ?_ _) | (with_reducible refine Kd.C_drewN ?_ _) | (with_reducible refine Kd.C_drew ?_)))
           (case side4 => exact HC0_5.out)
           rintro e w73 ⟨rfl, hb⟩
           refine ⟨_, rfl, ?_⟩
           have n0_ := Aside0.mk (Kd.R_below (by (with_reducible repeat (first | apply Kd.R_alloc | apply Kd.R_drewN | apply Kd.R_drew)); exact HO262.out) hb)
           have n1_ := Aside0.mk (Kd.R_below (by (with_reducible repeat (first | apply Kd.R_alloc | apply Kd.R_drewN | apply Kd.R_drew)); exact HO265.out) hb)
           have n2_ := Aside0.mk (Kd.V_below (by (with_reducible repeat (first | apply Kd.V_alloc | apply Kd.V_drewN | apply Kd.V_drew)); exact HO274.out) hb)
           have n3_ := Aside0.mk (Kd.V_below (by (with_reducible repeat (first | apply Kd.V_alloc | apply Kd.V_drewN | apply Kd.V_drew)); exact HO277.out) hb)
           have n4_ := Aside0.mk (qAi (g := gb247) (o := .cells #[.int .i64 a0_0, .bool a0_1, .int .i64 a0_2, .string a0_3, .slice A0_4 l0_4.length c0_4, .slice A0_5 l0_5.length c0_5] 25 (0, 0)) (by (with_reducible repeat (first | refine qAg ?_ _ | refine qAh ?_ | refine blk_alloc ?_ _)); exact BK247.out) hb)
           have n5_ := Aside0.mk (qAi (g := gb248) (o := .cells #[.int .i64 a1_0, .bool a1_1, .int .i64 a1_2, .string a1_3, .slice A1_4 l1_4.length c1_4, .slice A1_5 l1_5.length c1_5] 25 (0, 0)) (by (with_reducible repeat (first | refine qAg ?_ _ | refine qAh ?_ | refine blk_alloc ?_ _)); exact BK248.out) hb)
           have n6_ := Aside0.mk (qAi (g := gb267) (o := .cells #[.int .i64 t256, .bool t257, .int .i64 t258, .string t259, .slice Ao58 t260.length co58, .slice Ao59 t263.length co59] 25 (0, 0)) (by (with_reducible repeat (first | refine qAg ?_ _ | refine qAh ?_ | refine blk_alloc ?_ _)); exact BK267.out) hb)
           have n7_ := Aside0.mk (qAi (g := gb279) (o := .cells #[.int .i64 t268, .bool t269, .int .i64 t270, .string t271, .slice Ao68 t272.length co68, .slice Ao69 t275.length co69] 25 (0, 0)) (by (with_reducible repeat (first | refine qAg ?_ _ | refine qAh ?_ | refine blk_alloc ?_ _)); exact BK279.out) hb)
           have n8_ := Aside0.mk (qAj (by repeat (first | (with_reducible first | exact HB.out | apply qAd | apply qAc | apply qAe | refine qAf ?_ GE247.out | refine qAf ?_ GE248.out | refine qAf ?_ GE267.out | refine qAf ?_ GE279.out) | exact HB.out)) hb)
           clear HO262
           clear HO265
           clear HO274
           clear HO277
           clear BK247
           clear BK248
           clear BK267
           clear BK279
           clear HB
           have HO262 := n0_
           have HO265 := n1_
           have HO274 := n2_
           have HO277 := n3_
           have BK247 := n4_
           have BK248 := n5_
           have BK267 := n6_
           have BK279 := n7_
           have HB := n8_
           clear n0_ n1_ n2_ n3_ n4_ n5_ n6_ n7_ n8_
           (try clear hb)
           (try clear hb2)
           (try clear hk)
           (try clear hi)
           refine hK.out _ _ ⟨(qAa BK247.out 0).trans rfl, (qAa BK247.out 1).trans rfl, (qAa BK247.out 2).trans rfl, (qAa BK247.out 3).trans rfl, (qAa BK247.out 4).trans rfl, (qAa BK247.out 5).trans rfl, (qAa BK248.out 0).trans rfl, (qAa BK248.out 1).trans rfl, (qAa BK248.out 2).trans rfl, (qAa BK248.out 3).trans rfl, (qAa BK248.out 4).trans rfl, (qAa BK248.out 5).trans rfl, (qAa BK267.out 0).trans rfl, (qAa BK267.out 1).trans rfl, (qAa BK267.out 2).trans rfl, (qAa BK267.out 3).trans rfl, (qAa BK267.out 4).trans rfl, (qAa BK267.out 5).trans rfl, (qAa BK279.out 0).trans rfl, (qAa BK279.out 1).trans rfl, (qAa BK279.out 2).trans rfl, (qAa BK279.out 3).trans rfl, (qAa BK279.out 4).trans rfl, (qAa BK279.out 5).trans rfl⟩ (fun hHeld => ?_)
           clear hK K
           refine norm_ (a' := ?_) ?_ ?_
           rotate_left
           ·show Act.put _ (some 62) _ = _
            simp only [Act.put, List.setIfInBounds_toArray, List.set_cons_zero, List.set_cons_succ, i64_w, i32_w]
            rfl
           refine pure_ (i := 14) (N := some 63) (v := ?_) (a' := ?_) #[true, true, true, true, true, true, true, true, true, true, true, true, true, true, true, false, false, false, false, false, false, false, false, false, false, false, false, false, false, false, false, false, false, false, false, false, false, false, false, false, false, false, false, false, false, false] rfl rfl (any_of HT_.out (by kernel_rfl)) (fun _ _ _ h => h) (Or.inl ⟨by rfl, ?_⟩) ?_ ?_
           rotate_left
           ·intro w'
            go_simp
            with_reducible rfl
           rotate_left
           ·simp only [Act.put, List.setIfInBounds_toArray, List.set_cons_zero, List.set_cons_succ, i64_w, i32_w]
            rfl
           refine pure_ (i := 15) (N := some 64) (v := ?_) (a' := ?_) #[true, true, true, true, true, true, true, true, true, true, true, true, true, true, true, true, false, false, false, false, false, false, false, false, false, false, false, false, false, false, false, false, false, false, false, false, false, false, false, false, false, false, false, false, false, false] rfl rfl (any_of HT_.out (by kernel_rfl)) (fun _ _ _ h => h) (Or.inl ⟨by rfl, ?_⟩) ?_ ?_
           rotate_left
           ·intro w'
            go_simp
            with_reducible rfl
           rotate_left
           ·simp only [Act.put, List.setIfInBounds_toArray, List.set_cons_zero, List.set_cons_succ, i64_w, i32_w]
            rfl
           refine pure_ (i := 16) (N := some 65) (v := ?_) (a' := ?_) #[true, true, true, true, true, true, true, true, true, true, true, true, true, true, true, true, true, false, false, false, false, false, false, false, false, false, false, false, false, false, false, false, false, false, false, false, false, false, false, false, false, false, false, false, false, false] rfl rfl (any_of HT_.out (by kernel_rfl)) (fun _ _ _ h => h) (Or.inl ⟨by rfl, ?_⟩) ?_ ?_
           rotate_left
           ·intro w'
            go_simp
            with_reducible rfl
           rotate_left
           ·simp only [Act.put, List.setIfInBounds_toArray, List.set_cons_zero, List.set_cons_succ, i64_w, i32_w]
            rfl
           refine take_ (i := 17) (N := some 66) (v := ?_) (a' := ?_) #[true, true, true, true, true, true, true, true, true, true, true, true, true, true, true, true, true, true, false, false, false, false, false, false, false, false, false, false, false, false, false, false, false, false, false, false, false, false, false, false, false, false, false, false, false, false] rfl rfl (qA4 HT_.out HW_.out (by kernel_rfl)) (fun _ _ _ h => h) (Or.inl ⟨by rfl, ?_⟩) hHeld ?_ ?_
           rotate_left
           ·rintro w' ⟨s0, s1, s2, s3, s4, s5, s6, s7, s8, s9, s10, s11, s12, s13, s14, s15, s16, s17, s18, s19, s20, s21, s22, s23⟩
            go_simp
            with_reducible rfl
           rotate_left
           ·simp only [Act.put, List.setIfInBounds_toArray, List.set_cons_zero, List.set_cons_succ, i64_w, i32_w]
            rfl
           refine take_ (i := 18) (N := some 67) (v := ?_) (a' := ?_) #[true, true, true, true, true, true, true, true, true, true, true, true, true, true, true, true, true, true, true, false, false, false, false, false, false, false, false, false, false, false, false, false, false, false, false, false, false, false, false, false, false, false, false, false, false, false] rfl rfl (qA4 HT_.out HW_.out (by kernel_rfl)) (fun _ _ _ h => h) (Or.inl ⟨by rfl, ?_⟩) hHeld ?_ ?_
           rotate_left
           ·rintro w' ⟨s0, s1, s2, s3, s4, s5, s6, s7, s8, s9, s10, s11, s12, s13, s14, s15, s16, s17, s18, s19, s20, s21, s22, s23⟩
            go_simp
            with_reducible rfl
           rotate_left
           ·simp only [Act.put, List.setIfInBounds_toArray, List.set_cons_zero, List.set_cons_succ, i64_w, i32_w]
            rfl
           refine take_ (i := 20) (N := some 69) (v := ?_) (a' := ?_) #[true, true, true, true, true, true, true, true, true, true, true, true, true, true, true, true, true, true, true, false, true, false, false, false, false, false, false, false, false, false, false, false, false, false, false, false, false, false, false, false, false, false, false, false, false, false] rfl rfl (qA4 HT_.out HW_.out (by kernel_rfl)) (fun _ _ _ h => h) (Or.inl ⟨by rfl, ?_⟩) hHeld ?_ ?_
           rotate_left
           ·rintro w' ⟨s0, s1, s2, s3, s4, s5, s6, s7, s8, s9, s10, s11, s12, s13, s14, s15, s16, s17, s18, s19, s20, s21, s22, s23⟩
            go_simp
            with_reducible rfl
           rotate_left
           ·simp only [Act.put, List.setIfInBounds_toArray, List.set_cons_zero, List.set_cons_succ, i64_w, i32_w]
            rfl
           refine take_ (i := 21) (N := some 70) (v := ?_) (a' := ?_) #[true, true, true, true, true, true, true, true, true, true, true, true, true, true, true, true, true, true, true, false, true, true, false, false, false, false, false, false, false, false, false, false, false, false, false, false, false, false, false, false, false, false, false, false, false, false] rfl rfl (qA4 HT_.out HW_.out (by kernel_rfl)) (fun _ _ _ h => h) (Or.inl ⟨by rfl, ?_⟩) hHeld ?_ ?_
           rotate_left
           ·rintro w' ⟨s0, s1, s2, s3, s4, s5, s6, s7, s8, s9, s10, s11, s12, s13, s14, s15, s16, s17, s18, s19, s20, s21, s22, s23⟩
            go_simp
            with_reducible rfl
           rotate_left
           ·simp only [Act.put, List.setIfInBounds_toArray, List.set_cons_zero, List.set_cons_succ, i64_w, i32_w]
            rfl
           refine one_ (i := 19) (N := some 68) #[true, true, true, true, true, true, true, true, true, true, true, true, true, true, true, true, true, true, true, true, true, true, false, false, false, false, false, false, false, false, false, false, false, false, false, false, false, false, false, false, false, false, false, false, false, false] rfl rfl (one_of HT_.out (by kernel_rfl)) (by decide) (fun K hK => ?_)
           refine goes_ Tryd.func23 (by kernel_rfl) rfl #[.agg #[.int .i64 a0_0, .bool a0_1, .int .i64 a0_2, .string a0_3, .slice A0_4 l0_4.length c0_4, .slice A0_5 l0_5.length c0_5], .agg #[.int .i64 a1_0, .bool a1_1, .int .i64 a1_2, .string a1_3, .slice A1_4 l1_4.length c1_4, .slice A1_5 l1_5.length c1_5]] (by rfl) rfl rfl (by (try simp only [List.map_toArray, List.map_cons, List.map_nil]); first | done | rfl | (simp only [List.length_drop, List.length_take]; rfl)) ?_
           with_reducible refine (value_Same.calls a0_0 a0_1 a0_2 a0_3 _ _ l0_4 _ _ l0_5 a1_0 a1_1 a1_2 a1_3 _ _ l1_4 _ _ l1_5 t283 _ ?side1 ?side2 ?side3 ?side4 ?side5 ?side6 ?side7 ?side8 A37.out).mono ?_
           (case side1 => repeat (first | exact (Kd.C_below HR0_4.out HB.out) | (with_reducible refine Kd.C_alloc ?_ _) | (with_reducible refine Kd.C_drewN ?_ _) | (with_reducible refine Kd.C_drew ?_)))
           (case side2 => exact HC0_4.out)
           (case side3 => repeat (first | exact (Kd.C_below HR0_5.out HB.out) | (with_reducible refine Kd.C_alloc ?_ _) | (with_reducible refine Kd.C_drewN ?_ _) | (with_reducible refine Kd.C_drew ?_)))
           (case side4 => exact HC0_5.out)
           (case side5 => repeat (first | exact (Kd.C_below HR1_4.out HB.out) | (with_reducible refine Kd.C_alloc ?_ _) | (with_reducible refine Kd.C_drewN ?_ _) | (with_reducible refine Kd.C_drew ?_)))
           (case side6 => exact HC1_4.out)
           (case side7 => repeat (first | exact (Kd.C_below HR1_5.out HB.out) | (with_reducible refine Kd.C_alloc ?_ _) | (with_reducible refine Kd.C_drewN ?_ _) | (with_reducible refine Kd.C_drew ?_)))
           (case side8 => exact HC1_5.out)
           rintro e w74 ⟨rfl, hb⟩
           refine ⟨_, rfl, ?_⟩
           have n0_ := Aside0.mk (Kd.R_below (by (with_reducible repeat (first | apply Kd.R_alloc | apply Kd.R_drewN | apply Kd.R_drew)); exact HO262.out) hb)
           have n1_ := Aside0.mk (Kd.R_below (by (with_reducible repeat (first | apply Kd.R_alloc | apply Kd.R_drewN | apply Kd.R_drew)); exact HO265.out) hb)
           have n2_ := Aside0.mk (Kd.V_below (by (with_reducible repeat (first | apply Kd.V_alloc | apply Kd.V_drewN | apply Kd.V_drew)); exact HO274.out) hb)
           have n3_ := Aside0.mk (Kd.V_below (by (with_reducible repeat (first | apply Kd.V_alloc | apply Kd.V_drewN | apply Kd.V_drew)); exact HO277.out) hb)
           have n4_ := Aside0.mk (qAi (g := gb247) (o := .cells #[.int .i64 a0_0, .bool a0_1, .int .i64 a0_2, .string a0_3, .slice A0_4 l0_4.length c0_4, .slice A0_5 l0_5.length c0_5] 25 (0, 0)) (by (with_reducible repeat (first | refine qAg ?_ _ | refine qAh ?_ | refine blk_alloc ?_ _)); exact BK247.out) hb)
           have n5_ := Aside0.mk (qAi (g := gb248) (o := .cells #[.int .i64 a1_0, .bool a1_1, .int .i64 a1_2, .string a1_3, .slice A1_4 l1_4.length c1_4, .slice A1_5 l1_5.length c1_5] 25 (0, 0)) (by (with_reducible repeat (first | refine qAg ?_ _ | refine qAh ?_ | refine blk_alloc ?_ _)); exact BK248.out) hb)
           have n6_ := Aside0.mk (qAi (g := gb267) (o := .cells #[.int .i64 t256, .bool t257, .int .i64 t258, .string t259, .slice Ao58 t260.length co58, .slice Ao59 t263.length co59] 25 (0, 0)) (by (with_reducible repeat (first | refine qAg ?_ _ | refine qAh ?_ | refine blk_alloc ?_ _)); exact BK267.out) hb)
           have n7_ := Aside0.mk (qAi (g := gb279) (o := .cells #[.int .i64 t268, .bool t269, .int .i64 t270, .string t271, .slice Ao68 t272.length co68, .slice Ao69 t275.length co69] 25 (0, 0)) (by (with_reducible repeat (first | refine qAg ?_ _ | refine qAh ?_ | refine blk_alloc ?_ _)); exact BK279.out) hb)
           have n8_ := Aside0.mk (qAj (by repeat (first | (with_reducible first | exact HB.out | apply qAd | apply qAc | apply qAe | refine qAf ?_ GE247.out | refine qAf ?_ GE248.out | refine qAf ?_ GE267.out | refine qAf ?_ GE279.out) | exact HB.out)) hb)
           clear HO262
           clear HO265
           clear HO274
           clear HO277
           clear BK247
           clear BK248
           clear BK267
           clear BK279
           clear HB
           have HO262 := n0_
           have HO265 := n1_
           have HO274 := n2_
           have HO277 := n3_
           have BK247 := n4_
           have BK248 := n5_
           have BK267 := n6_
           have BK279 := n7_
           have HB := n8_
           clear n0_ n1_ n2_ n3_ n4_ n5_ n6_ n7_ n8_
           (try clear hb)
           (try clear hb2)
           (try clear hk)
           (try clear hi)
           refine hK.out _ _ ⟨(qAa BK247.out 0).trans rfl, (qAa BK247.out 1).trans rfl, (qAa BK247.out 2).trans rfl, (qAa BK247.out 3).trans rfl, (qAa BK247.out 4).trans rfl, (qAa BK247.out 5).trans rfl, (qAa BK248.out 0).trans rfl, (qAa BK248.out 1).trans rfl, (qAa BK248.out 2).trans rfl, (qAa BK248.out 3).trans rfl, (qAa BK248.out 4).trans rfl, (qAa BK248.out 5).trans rfl, (qAa BK267.out 0).trans rfl, (qAa BK267.out 1).trans rfl, (qAa BK267.out 2).trans rfl, (qAa BK267.out 3).trans rfl, (qAa BK267.out 4).trans rfl, (qAa BK267.out 5).trans rfl, (qAa BK279.out 0).trans rfl, (qAa BK279.out 1).trans rfl, (qAa BK279.out 2).trans rfl, (qAa BK279.out 3).trans rfl, (qAa BK279.out 4).trans rfl, (qAa BK279.out 5).trans rfl⟩ (fun hHeld => ?_)
           clear hK K
           refine norm_ (a' := ?_) ?_ ?_
           rotate_left
           ·show Act.put _ (some 68) _ = _
            simp only [Act.put, List.setIfInBounds_toArray, List.set_cons_zero, List.set_cons_succ, i64_w, i32_w]
            rfl
           refine one_ (i := 22) (N := some 71) #[true, true, true, true, true, true, true, true, true, true, true, true, true, true, true, true, true, true, true, true, true, true, true, false, false, false, false, false, false, false, false, false, false, false, false, false, false, false, false, false, false, false, false, false, false, false] rfl rfl (one_of HT_.out (by kernel_rfl)) (by decide) (fun K hK => ?_)
           refine goes_ Tryd.func24 (by kernel_rfl) rfl #[.agg #[.int .i64 a0_0, .bool a0_1, .int .i64 a0_2, .string a0_3, .slice A0_4 l0_4.length c0_4, .slice A0_5 l0_5.length c0_5], .agg #[.int .i64 a1_0, .bool a1_1, .int .i64 a1_2, .string a1_3, .slice A1_4 l1_4.length c1_4, .slice A1_5 l1_5.length c1_5]] (by rfl) rfl rfl (by (try simp only [List.map_toArray, List.map_cons, List.map_nil]); first | done | rfl | (simp only [List.length_drop, List.length_take]; rfl)) ?_
           with_reducible refine (hogsheadref15_Same.calls kj3 a0_0 a0_1 a0_2 a0_3 _ _ l0_4 _ _ l0_5 a1_0 a1_1 a1_2 a1_3 _ _ l1_4 _ _ l1_5 t284 _ ?side1 ?side2 ?side3 ?side4 ?side5 ?side6 ?side7 ?side8 A38.out).mono ?_
           (case side1 => repeat (first | exact (Kd.C_below HR0_4.out HB.out) | (with_reducible refine Kd.C_alloc ?_ _) | (with_reducible refine Kd.C_drewN ?_ _) | (with_reducible refine Kd.C_drew ?_)))
           (case side2 => exact HC0_4.out)
           (case side3 => repeat (first | exact (Kd.C_below HR0_5.out HB.out) | (with_reducible refine Kd.C_alloc ?_ _) | (with_reducible refine Kd.C_drewN ?_ _) | (with_reducible refine Kd.C_drew ?_)))
           (case side4 => exact HC0_5.out)
           (case side5 => repeat (first | exact (Kd.C_below HR1_4.out HB.out) | (with_reducible refine Kd.C_alloc ?_ _) | (with_reducible refine Kd.C_drewN ?_ _) | (with_reducible refine Kd.C_drew ?_)))
           (case side6 => exact HC1_4.out)
           (case side7 => repeat (first | exact (Kd.C_below HR1_5.out HB.out) | (with_reducible refine Kd.C_alloc ?_ _) | (with_reducible refine Kd.C_drewN ?_ _) | (with_reducible refine Kd.C_drew ?_)))
           (case side8 => exact HC1_5.out)
           rintro e w75 ⟨rfl, hb⟩
           refine ⟨_, rfl, ?_⟩
           have n0_ := Aside0.mk (Kd.R_below (by (with_reducible repeat (first | apply Kd.R_alloc | apply Kd.R_drewN | apply Kd.R_drew)); exact HO262.out) hb)
           have n1_ := Aside0.mk (Kd.R_below (by (with_reducible repeat (first | apply Kd.R_alloc | apply Kd.R_drewN | apply Kd.R_drew)); exact HO265.out) hb)
           have n2_ := Aside0.mk (Kd.V_below (by (with_reducible repeat (first | apply Kd.V_alloc | apply Kd.V_drewN | apply Kd.V_drew)); exact HO274.out) hb)
           have n3_ := Aside0.mk (Kd.V_below (by (with_reducible repeat (first | apply Kd.V_alloc | apply Kd.V_drewN | apply Kd.V_drew)); exact HO277.out) hb)
           have n4_ := Aside0.mk (qAi (g := gb247) (o := .cells #[.int .i64 a0_0, .bool a0_1, .int .i64 a0_2, .string a0_3, .slice A0_4 l0_4.length c0_4, .slice A0_5 l0_5.length c0_5] 25 (0, 0)) (by (with_reducible repeat (first | refine qAg ?_ _ | refine qAh ?_ | refine blk_alloc ?_ _)); exact BK247.out) hb)
           have n5_ := Aside0.mk (qAi (g := gb248) (o := .cells #[.int .i64 a1_0, .bool a1_1, .int .i64 a1_2, .string a1_3, .slice A1_4 l1_4.length c1_4, .slice A1_5 l1_5.length c1_5] 25 (0, 0)) (by (with_reducible repeat (first | refine qAg ?_ _ | refine qAh ?_ | refine blk_alloc ?_ _)); exact BK248.out) hb)
           have n6_ := Aside0.mk (qAi (g := gb267) (o := .cells #[.int .i64 t256, .bool t257, .int .i64 t258, .string t259, .slice Ao58 t260.length co58, .slice Ao59 t263.length co59] 25 (0, 0)) (by (with_reducible repeat (first | refine qAg ?_ _ | refine qAh ?_ | refine blk_alloc ?_ _)); exact BK267.out) hb)
           have n7_ := Aside0.mk (qAi (g := gb279) (o := .cells #[.int .i64 t268, .bool t269, .int .i64 t270, .string t271, .slice Ao68 t272.length co68, .slice Ao69 t275.length co69] 25 (0, 0)) (by (with_reducible repeat (first | refine qAg ?_ _ | refine qAh ?_ | refine blk_alloc ?_ _)); exact BK279.out) hb)
           have n8_ := Aside0.mk (qAj (by repeat (first | (with_reducible first | exact HB.out | apply qAd | apply qAc | apply qAe | refine qAf ?_ GE247.out | refine qAf ?_ GE248.out | refine qAf ?_ GE267.out | refine qAf ?_ GE279.out) | exact HB.out)) hb)
           clear HO262
           clear HO265
           clear HO274
           clear HO277
           clear BK247
           clear BK248
           clear BK267
           clear BK279
           clear HB
           have HO262 := n0_
           have HO265 := n1_
           have HO274 := n2_
           have HO277 := n3_
           have BK247 := n4_
           have BK248 := n5_
           have BK267 := n6_
           have BK279 := n7_
           have HB := n8_
           clear n0_ n1_ n2_ n3_ n4_ n5_ n6_ n7_ n8_
           (try clear hb)
           (try clear hb2)
           (try clear hk)
           (try clear hi)
           refine hK.out _ _ ⟨(qAa BK247.out 0).trans rfl, (qAa BK247.out 1).trans rfl, (qAa BK247.out 2).trans rfl, (qAa BK247.out 3).trans rfl, (qAa BK247.out 4).trans rfl, (qAa BK247.out 5).trans rfl, (qAa BK248.out 0).trans rfl, (qAa BK248.out 1).trans rfl, (qAa BK248.out 2).trans rfl, (qAa BK248.out 3).trans rfl, (qAa BK248.out 4).trans rfl, (qAa BK248.out 5).trans rfl, (qAa BK267.out 0).trans rfl, (qAa BK267.out 1).trans rfl, (qAa BK267.out 2).trans rfl, (qAa BK267.out 3).trans rfl, (qAa BK267.out 4).trans rfl, (qAa BK267.out 5).trans rfl, (qAa BK279.out 0).trans rfl, (qAa BK279.out 1).trans rfl, (qAa BK279.out 2).trans rfl, (qAa BK279.out 3).trans rfl, (qAa BK279.out 4).trans rfl, (qAa BK279.out 5).trans rfl⟩ (fun hHeld => ?_)
           clear hK K
           refine norm_ (a' := ?_) ?_ ?_
           rotate_left
           ·show Act.put _ (some 71) _ = _
            simp only [Act.put, List.setIfInBounds_toArray, List.set_cons_zero, List.set_cons_succ, i64_w, i32_w]
            rfl
           refine pure_ (i := 23) (N := some 72) (v := ?_) (a' := ?_) #[true, true, true, true, true, true, true, true, true, true, true, true, true, true, true, true, true, true, true, true, true, true, true, true, false, false, false, false, false, false, false, false, false, false, false, false, false, false, false, false, false, false, false, false, false, false] rfl rfl (any_of HT_.out (by kernel_rfl)) (fun _ _ _ h => h) (Or.inl ⟨by rfl, ?_⟩) ?_ ?_
           rotate_left
           ·intro w'
            go_simp
            with_reducible rfl
           rotate_left
           ·simp only [Act.put, List.setIfInBounds_toArray, List.set_cons_zero, List.set_cons_succ, i64_w, i32_w]
            rfl
           refine pure_ (i := 24) (N := some 73) (v := ?_) (a' := ?_) #[true, true, true, true, true, true, true, true, true, true, true, true, true, true, true, true, true, true, true, true, true, true, true, true, true, false, false, false, false, false, false, false, false, false, false, false, false, false, false, false, false, false, false, false, false, false] rfl rfl (any_of HT_.out (by kernel_rfl)) (fun _ _ _ h => h) (Or.inl ⟨by rfl, ?_⟩) ?_ ?_
           rotate_left
           ·intro w'
            go_simp
            with_reducible rfl
           rotate_left
           ·simp only [Act.put, List.setIfInBounds_toArray, List.set_cons_zero, List.set_cons_succ, i64_w, i32_w]
            rfl
           refine pure_ (i := 25) (N := some 74) (v := ?_) (a' := ?_) #[true, true, true, true, true, true, true, true, true, true, true, true, true, true, true, true, true, true, true, true, true, true, true, true, true, true, false, false, false, false, false, false, false, false, false, false, false, false, false, false, false, false, false, false, false, false] rfl rfl (any_of HT_.out (by kernel_rfl)) (fun _ _ _ h => h) (Or.inl ⟨by rfl, ?_⟩) ?_ ?_
           rotate_left
           ·intro w'
            go_simp
            with_reducible rfl
           rotate_left
           ·simp only [Act.put, List.setIfInBounds_toArray, List.set_cons_zero, List.set_cons_succ, i64_w, i32_w]
            rfl
           refine take_ (i := 26) (N := some 75) (v := ?_) (a' := ?_) #[true, true, true, true, true, true, true, true, true, true, true, true, true, true, true, true, true, true, true, true, true, true, true, true, true, true, true, false, false, false, false, false, false, false, false, false, false, false, false, false, false, false, false, false, false, false] rfl rfl (qA4 HT_.out HW_.out (by kernel_rfl)) (fun _ _ _ h => h) (Or.inl ⟨by rfl, ?_⟩) hHeld ?_ ?_
           rotate_left
           ·rintro w' ⟨s0, s1, s2, s3, s4, s5, s6, s7, s8, s9, s10, s11, s12, s13, s14, s15, s16, s17, s18, s19, s20, s21, s22, s23⟩
            go_simp
            with_reducible rfl
           rotate_left
           ·simp only [Act.put, List.setIfInBounds_toArray, List.set_cons_zero, List.set_cons_succ, i64_w, i32_w]
            rfl
           refine take_ (i := 27) (N := some 76) (v := ?_) (a' := ?_) #[true, true, true, true, true, true, true, true, true, true, true, true, true, true, true, true, true, true, true, true, true, true, true, true, true, true, true, true, false, false, false, false, false, false, false, false, false, false, false, false, false, false, false, false, false, false] rfl rfl (qA4 HT_.out HW_.out (by kernel_rfl)) (fun _ _ _ h => h) (Or.inl ⟨by rfl, ?_⟩) hHeld ?_ ?_
           rotate_left
           ·rintro w' ⟨s0, s1, s2, s3, s4, s5, s6, s7, s8, s9, s10, s11, s12, s13, s14, s15, s16, s17, s18, s19, s20, s21, s22, s23⟩
            go_simp
            with_reducible rfl
           rotate_left
           ·simp only [Act.put, List.setIfInBounds_toArray, List.set_cons_zero, List.set_cons_succ, i64_w, i32_w]
            rfl
           refine one_ (i := 28) (N := some 77) #[true, true, true, true, true, true, true, true, true, true, true, true, true, true, true, true, true, true, true, true, true, true, true, true, true, true, true, true, true, false, false, false, false, false, false, false, false, false, false, false, false, false, false, false, false, false] rfl rfl (one_of HT_.out (by kernel_rfl)) (by decide) (fun K hK => ?_)
           refine goes_ Tryd.func25 (by kernel_rfl) rfl #[.agg #[.int .i64 t256, .bool t257, .int .i64 t258, .string t259, .slice Ao58 t260.length co58, .slice Ao59 t263.length co59], .agg #[.int .i64 t268, .bool t269, .int .i64 t270, .string t271, .slice Ao68 t272.length co68, .slice Ao69 t275.length co69], .int .i64 100] (by rfl) rfl rfl (by (try simp only [List.map_toArray, List.map_cons, List.map_nil]); first | done | rfl | (simp only [List.length_drop, List.length_take]; rfl)) ?_
           with_reducible refine (hogsheadlaw0_SameValue.calls kj3 t256 t257 t258 t259 _ _ t260 _ _ t263 t268 t269 t270 t271 _ _ t272 _ _ t275 100 true _ ?side1 ?side2 ?side3 ?side4 ?side5 ?side6 ?side7 ?side8 A40.out).mono ?_
           (case side1 => repeat (first | exact (Kd.R_reads' HO262.out).2.2 | (with_reducible refine Kd.C_alloc ?_ _) | (with_reducible refine Kd.C_drewN ?_ _) | (with_reducible refine Kd.C_drew ?_)))
           (case side2 => exact (Kd.R_reads' HO262.out).2.1)
           (case side3 => repeat (first | exact (Kd.R_reads' HO265.out).2.2 | (with_reducible refine Kd.C_alloc ?_ _) | (with_reducible refine Kd.C_drewN ?_ _) | (with_reducible refine Kd.C_drew ?_)))
           (case side4 => exact (Kd.R_reads' HO265.out).2.1)
           (case side5 => repeat (first | exact (Kd.V_reads' HO274.out).2.2 | (with_reducible refine Kd.C_alloc ?_ _) | (with_reducible refine Kd.C_drewN ?_ _) | (with_reducible refine Kd.C_drew ?_)))
           (case side6 => exact (Kd.V_reads' HO274.out).2.1)
           (case side7 => repeat (first | exact (Kd.V_reads' HO277.out).2.2 | (with_reducible refine Kd.C_alloc ?_ _) | (with_reducible refine Kd.C_drewN ?_ _) | (with_reducible refine Kd.C_drew ?_)))
           (case side8 => exact (Kd.V_reads' HO277.out).2.1)
           rintro e w76 ⟨rfl, hb⟩
           refine ⟨_, rfl, ?_⟩
           have n0_ := Aside0.mk (Kd.R_below (by (with_reducible repeat (first | apply Kd.R_alloc | apply Kd.R_drewN | apply Kd.R_drew)); exact HO262.out) hb)
           have n1_ := Aside0.mk (Kd.R_below (by (with_reducible repeat (first | apply Kd.R_alloc | apply Kd.R_drewN | apply Kd.R_drew)); exact HO265.out) hb)
           have n2_ := Aside0.mk (Kd.V_below (by (with_reducible repeat (first | apply Kd.V_alloc | apply Kd.V_drewN | apply Kd.V_drew)); exact HO274.out) hb)
           have n3_ := Aside0.mk (Kd.V_below (by (with_reducible repeat (first | apply Kd.V_alloc | apply Kd.V_drewN | apply Kd.V_drew)); exact HO277.out) hb)
           have n4_ := Aside0.mk (qAi (g := gb247) (o := .cells #[.int .i64 a0_0, .bool a0_1, .int .i64 a0_2, .string a0_3, .slice A0_4 l0_4.length c0_4, .slice A0_5 l0_5.length c0_5] 25 (0, 0)) (by (with_reducible repeat (first | refine qAg ?_ _ | refine qAh ?_ | refine blk_alloc ?_ _)); exact BK247.out) hb)
           have n5_ := Aside0.mk (qAi (g := gb248) (o := .cells #[.int .i64 a1_0, .bool a1_1, .int .i64 a1_2, .string a1_3, .slice A1_4 l1_4.length c1_4, .slice A1_5 l1_5.length c1_5] 25 (0, 0)) (by (with_reducible repeat (first | refine qAg ?_ _ | refine qAh ?_ | refine blk_alloc ?_ _)); exact BK248.out) hb)
           have n6_ := Aside0.mk (qAi (g := gb267) (o := .cells #[.int .i64 t256, .bool t257, .int .i64 t258, .string t259, .slice Ao58 t260.length co58, .slice Ao59 t263.length co59] 25 (0, 0)) (by (with_reducible repeat (first | refine qAg ?_ _ | refine qAh ?_ | refine blk_alloc ?_ _)); exact BK267.out) hb)
           have n7_ := Aside0.mk (qAi (g := gb279) (o := .cells #[.int .i64 t268, .bool t269, .int .i64 t270, .string t271, .slice Ao68 t272.length co68, .slice Ao69 t275.length co69] 25 (0, 0)) (by (with_reducible repeat (first | refine qAg ?_ _ | refine qAh ?_ | refine blk_alloc ?_ _)); exact BK279.out) hb)
           have n8_ := Aside0.mk (qAj (by repeat (first | (with_reducible first | exact HB.out | apply qAd | apply qAc | apply qAe | refine qAf ?_ GE247.out | refine qAf ?_ GE248.out | refine qAf ?_ GE267.out | refine qAf ?_ GE279.out) | exact HB.out)) hb)
           clear HO262
           clear HO265
           clear HO274
           clear HO277
           clear BK247
           clear BK248
           clear BK267
           clear BK279
           clear HB
           have HO262 := n0_
           have HO265 := n1_
           have HO274 := n2_
           have HO277 := n3_
           have BK247 := n4_
           have BK248 := n5_
           have BK267 := n6_
           have BK279 := n7_
           have HB := n8_
           clear n0_ n1_ n2_ n3_ n4_ n5_ n6_ n7_ n8_
           (try clear hb)
           (try clear hb2)
           (try clear hk)
           (try clear hi)
           refine hK.out _ _ ⟨(qAa BK247.out 0).trans rfl, (qAa BK247.out 1).trans rfl, (qAa BK247.out 2).trans rfl, (qAa BK247.out 3).trans rfl, (qAa BK247.out 4).trans rfl, (qAa BK247.out 5).trans rfl, (qAa BK248.out 0).trans rfl, (qAa BK248.out 1).trans rfl, (qAa BK248.out 2).trans rfl, (qAa BK248.out 3).trans rfl, (qAa BK248.out 4).trans rfl, (qAa BK248.out 5).trans rfl, (qAa BK267.out 0).trans rfl, (qAa BK267.out 1).trans rfl, (qAa BK267.out 2).trans rfl, (qAa BK267.out 3).trans rfl, (qAa BK267.out 4).trans rfl, (qAa BK267.out 5).trans rfl, (qAa BK279.out 0).trans rfl, (qAa BK279.out 1).trans rfl, (qAa BK279.out 2).trans rfl, (qAa BK279.out 3).trans rfl, (qAa BK279.out 4).trans rfl, (qAa BK279.out 5).trans rfl⟩ (fun hHeld => ?_)
           clear hK K
           refine norm_ (a' := ?_) ?_ ?_
           rotate_left
           ·show Act.put _ (some 77) _ = _
            simp only [Act.put, List.setIfInBounds_toArray, List.set_cons_zero, List.set_cons_succ, i64_w, i32_w]
            rfl
           refine pure_ (i := 29) (N := some 78) (v := ?_) (a' := ?_) #[true, true, true, true, true, true, true, true, true, true, true, true, true, true, true, true, true, true, true, true, true, true, true, true, true, true, true, true, true, true, false, false, false, false, false, false, false, false, false, false, false, false, false, false, false, false] rfl rfl (any_of HT_.out (by kernel_rfl)) (fun _ _ _ h => h) (Or.inl ⟨by rfl, ?_⟩) ?_ ?_
           rotate_left
           ·intro w'
            go_simp
            with_reducible rfl
           rotate_left
           ·simp only [Act.put, List.setIfInBounds_toArray, List.set_cons_zero, List.set_cons_succ, i64_w, i32_w]
            rfl
           refine pure_ (i := 30) (N := some 79) (v := ?_) (a' := ?_) #[true, true, true, true, true, true, true, true, true, true, true, true, true, true, true, true, true, true, true, true, true, true, true, true, true, true, true, true, true, true, true, false, false, false, false, false, false, false, false, false, false, false, false, false, false, false] rfl rfl (any_of HT_.out (by kernel_rfl)) (fun _ _ _ h => h) (Or.inl ⟨by rfl, ?_⟩) ?_ ?_
           rotate_left
           ·intro w'
            go_simp
            with_reducible rfl
           rotate_left
           ·simp only [Act.put, List.setIfInBounds_toArray, List.set_cons_zero, List.set_cons_succ, i64_w, i32_w]
            rfl
           refine pure_ (i := 31) (N := some 80) (v := ?_) (a' := ?_) #[true, true, true, true, true, true, true, true, true, true, true, true, true, true, true, true, true, true, true, true, true, true, true, true, true, true, true, true, true, true, true, true, false, false, false, false, false, false, false, false, false, false, false, false, false, false] rfl rfl (any_of HT_.out (by kernel_rfl)) (fun _ _ _ h => h) (Or.inl ⟨by rfl, ?_⟩) ?_ ?_
           rotate_left
           ·intro w'
            go_simp
            with_reducible rfl
           rotate_left
           ·simp only [Act.put, List.setIfInBounds_toArray, List.set_cons_zero, List.set_cons_succ, i64_w, i32_w]
            rfl
           refine pure_ (i := 32) (N := some 81) (v := ?_) (a' := ?_) #[true, true, true, true, true, true, true, true, true, true, true, true, true, true, true, true, true, true, true, true, true, true, true, true, true, true, true, true, true, true, true, true, true, false, false, false, false, false, false, false, false, false, false, false, false, false] rfl rfl (any_of HT_.out (by kernel_rfl)) (fun _ _ _ h => h) (Or.inl ⟨by rfl, ?_⟩) ?_ ?_
           rotate_left
           ·intro w'
            go_simp
            with_reducible rfl
           rotate_left
           ·simp only [Act.put, List.setIfInBounds_toArray, List.set_cons_zero, List.set_cons_succ, i64_w, i32_w]
            rfl
           refine pure_ (i := 33) (N := some 82) (v := ?_) (a' := ?_) #[true, true, true, true, true, true, true, true, true, true, true, true, true, true, true, true, true, true, true, true, true, true, true, true, true, true, true, true, true, true, true, true, true, true, false, false, false, false, false, false, false, false, false, false, false, false] rfl rfl (any_of HT_.out (by kernel_rfl)) (fun _ _ _ h => h) (Or.inl ⟨by rfl, ?_⟩) ?_ ?_
           rotate_left
           ·intro w'
            go_simp
            with_reducible rfl
           rotate_left
           ·simp only [Act.put, List.setIfInBounds_toArray, List.set_cons_zero, List.set_cons_succ, i64_w, i32_w]
            rfl
           refine pure_ (i := 34) (N := some 83) (v := ?_) (a' := ?_) #[true, true, true, true, true, true, true, true, true, true, true, true, true, true, true, true, true, true, true, true, true, true, true, true, true, true, true, true, true, true, true, true, true, true, true, false, false, false, false, false, false, false, false, false, false, false] rfl rfl (any_of HT_.out (by kernel_rfl)) (fun _ _ _ h => h) (Or.inl ⟨by rfl, ?_⟩) ?_ ?_
           rotate_left
           ·intro w'
            go_simp
            with_reducible rfl
           rotate_left
           ·simp only [Act.put, List.setIfInBounds_toArray, List.set_cons_zero, List.set_cons_succ, i64_w, i32_w]
            rfl
           refine pure_ (i := 35) (N := some 84) (v := ?_) (a' := ?_) #[true, true, true, true, true, true, true, true, true, true, true, true, true, true, true, true, true, true, true, true, true, true, true, true, true, true, true, true, true, true, true, true, true, true, true, true, false, false, false, false, false, false, false, false, false, false] rfl rfl (any_of HT_.out (by kernel_rfl)) (fun _ _ _ h => h) (Or.inl ⟨by rfl, ?_⟩) ?_ ?_
           rotate_left
           ·intro w'
            go_simp
            with_reducible rfl
           rotate_left
           ·simp only [Act.put, List.setIfInBounds_toArray, List.set_cons_zero, List.set_cons_succ, i64_w, i32_w]
            rfl
           refine pure_ (i := 36) (N := some 85) (v := ?_) (a' := ?_) #[true, true, true, true, true, true, true, true, true, true, true, true, true, true, true, true, true, true, true, true, true, true, true, true, true, true, true, true, true, true, true, true, true, true, true, true, true, false, false, false, false, false, false, false, false, false] rfl rfl (any_of HT_.out (by kernel_rfl)) (fun _ _ _ h => h) (Or.inl ⟨by rfl, ?_⟩) ?_ ?_
           rotate_left
           ·intro w'
            go_simp
            with_reducible rfl
           rotate_left
           ·simp only [Act.put, List.setIfInBounds_toArray, List.set_cons_zero, List.set_cons_succ, i64_w, i32_w]
            rfl
           refine pure_ (i := 38) (N := some 87) (v := ?_) (a' := ?_) #[true, true, true, true, true, true, true, true, true, true, true, true, true, true, true, true, true, true, true, true, true, true, true, true, true, true, true, true, true, true, true, true, true, true, true, true, true, false, true, false, false, false, false, false, false, false] rfl rfl (any_of HT_.out (by kernel_rfl)) (fun _ _ _ h => h) (Or.inl ⟨by rfl, ?_⟩) ?_ ?_
           rotate_left
           ·intro w'
            go_simp
            with_reducible rfl
           rotate_left
           ·simp only [Act.put, List.setIfInBounds_toArray, List.set_cons_zero, List.set_cons_succ, i64_w, i32_w]
            rfl
           refine one_ (i := 37) (N := some 86) #[true, true, true, true, true, true, true, true, true, true, true, true, true, true, true, true, true, true, true, true, true, true, true, true, true, true, true, true, true, true, true, true, true, true, true, true, true, true, true, false, false, false, false, false, false, false] rfl rfl (one_of HT_.out (by kernel_rfl)) (by decide) (fun K hK => ?_)
           refine goes_ Tryd.func26 (by kernel_rfl) rfl #[.string a2] (by rfl) rfl rfl (by (try simp only [List.map_toArray, List.map_cons, List.map_nil]); first | done | rfl | (simp only [List.length_drop, List.length_take]; rfl)) ?_
           with_reducible refine (value_Quote.calls kj3 a2 t286 _ A43.out).mono ?_
           rintro e w77 ⟨rfl, hb⟩
           refine ⟨_, rfl, ?_⟩
           have n0_ := Aside0.mk (Kd.R_below (by (with_reducible repeat (first | apply Kd.R_alloc | apply Kd.R_drewN | apply Kd.R_drew)); exact HO262.out) hb)
           have n1_ := Aside0.mk (Kd.R_below (by (with_reducible repeat (first | apply Kd.R_alloc | apply Kd.R_drewN | apply Kd.R_drew)); exact HO265.out) hb)
           have n2_ := Aside0.mk (Kd.V_below (by (with_reducible repeat (first | apply Kd.V_alloc | apply Kd.V_drewN | apply Kd.V_drew)); exact HO274.out) hb)
           have n3_ := Aside0.mk (Kd.V_below (by (with_reducible repeat (first | apply Kd.V_alloc | apply Kd.V_drewN | apply Kd.V_drew)); exact HO277.out) hb)
           have n4_ := Aside0.mk (qAi (g := gb247) (o := .cells #[.int .i64 a0_0, .bool a0_1, .int .i64 a0_2, .string a0_3, .slice A0_4 l0_4.length c0_4, .slice A0_5 l0_5.length c0_5] 25 (0, 0)) (by (with_reducible repeat (first | refine qAg ?_ _ | refine qAh ?_ | refine blk_alloc ?_ _)); exact BK247.out) hb)
           have n5_ := Aside0.mk (qAi (g := gb248) (o := .cells #[.int .i64 a1_0, .bool a1_1, .int .i64 a1_2, .string a1_3, .slice A1_4 l1_4.length c1_4, .slice A1_5 l1_5.length c1_5] 25 (0, 0)) (by (with_reducible repeat (first | refine qAg ?_ _ | refine qAh ?_ | refine blk_alloc ?_ _)); exact BK248.out) hb)
           have n6_ := Aside0.mk (qAi (g := gb267) (o := .cells #[.int .i64 t256, .bool t257, .int .i64 t258, .string t259, .slice Ao58 t260.length co58, .slice Ao59 t263.length co59] 25 (0, 0)) (by (with_reducible repeat (first | refine qAg ?_ _ | refine qAh ?_ | refine blk_alloc ?_ _)); exact BK267.out) hb)
           have n7_ := Aside0.mk (qAi (g := gb279) (o := .cells #[.int .i64 t268, .bool t269, .int .i64 t270, .string t271, .slice Ao68 t272.length co68, .slice Ao69 t275.length co69] 25 (0, 0)) (by (with_reducible repeat (first | refine qAg ?_ _ | refine qAh ?_ | refine blk_alloc ?_ _)); exact BK279.out) hb)
           have n8_ := Aside0.mk (qAj (by repeat (first | (with_reducible first | exact HB.out | apply qAd | apply qAc | apply qAe | refine qAf ?_ GE247.out | refine qAf ?_ GE248.out | refine qAf ?_ GE267.out | refine qAf ?_ GE279.out) | exact HB.out)) hb)
           clear HO262
           clear HO265
           clear HO274
           clear HO277
           clear BK247
           clear BK248
           clear BK267
           clear BK279
           clear HB
           have HO262 := n0_
           have HO265 := n1_
           have HO274 := n2_
           have HO277 := n3_
           have BK247 := n4_
           have BK248 := n5_
           have BK267 := n6_
           have BK279 := n7_
           have HB := n8_
           clear n0_ n1_ n2_ n3_ n4_ n5_ n6_ n7_ n8_
           (try clear hb)
           (try clear hb2)
           (try clear hk)
           (try clear hi)
           refine hK.out _ _ ⟨(qAa BK247.out 0).trans rfl, (qAa BK247.out 1).trans rfl, (qAa BK247.out 2).trans rfl, (qAa BK247.out 3).trans rfl, (qAa BK247.out 4).trans rfl, (qAa BK247.out 5).trans rfl, (qAa BK248.out 0).trans rfl, (qAa BK248.out 1).trans rfl, (qAa BK248.out 2).trans rfl, (qAa BK248.out 3).trans rfl, (qAa BK248.out 4).trans rfl, (qAa BK248.out 5).trans rfl, (qAa BK267.out 0).trans rfl, (qAa BK267.out 1).trans rfl, (qAa BK267.out 2).trans rfl, (qAa BK267.out 3).trans rfl, (qAa BK267.out 4).trans rfl, (qAa BK267.out 5).trans rfl, (qAa BK279.out 0).trans rfl, (qAa BK279.out 1).trans rfl, (qAa BK279.out 2).trans rfl, (qAa BK279.out 3).trans rfl, (qAa BK279.out 4).trans rfl, (qAa BK279.out 5).trans rfl⟩ (fun hHeld => ?_)
           clear hK K
           refine norm_ (a' := ?_) ?_ ?_
           rotate_left
           ·show Act.put _ (some 86) _ = _
            simp only [Act.put, List.setIfInBounds_toArray, List.set_cons_zero, List.set_cons_succ, i64_w, i32_w]
            rfl
           refine one_ (i := 39) (N := some 88) #[true, true, true, true, true, true, true, true, true, true, true, true, true, true, true, true, true, true, true, true, true, true, true, true, true, true, true, true, true, true, true, true, true, true, true, true, true, true, true, true, false, false, false, false, false, false] rfl rfl (one_of HT_.out (by kernel_rfl)) (by decide) (fun K hK => ?_)
           refine goes_ Tryd.func27 (by kernel_rfl) rfl #[.string a2] (by rfl) rfl rfl (by (try simp only [List.map_toArray, List.map_cons, List.map_nil]); first | done | rfl | (simp only [List.length_drop, List.length_take]; rfl)) ?_
           with_reducible refine (hogsheadref15_Quote.calls kj3 a2 t287 _ A44.out).mono ?_
           rintro e w78 ⟨rfl, hb⟩
           refine ⟨_, rfl, ?_⟩
           have n0_ := Aside0.mk (Kd.R_below (by (with_reducible repeat (first | apply Kd.R_alloc | apply Kd.R_drewN | apply Kd.R_drew)); exact HO262.out) hb)
           have n1_ := Aside0.mk (Kd.R_below (by (with_reducible repeat (first | apply Kd.R_alloc | apply Kd.R_drewN | apply Kd.R_drew)); exact HO265.out) hb)
           have n2_ := Aside0.mk (Kd.V_below (by (with_reducible repeat (first | apply Kd.V_alloc | apply Kd.V_drewN | apply Kd.V_drew)); exact HO274.out) hb)
           have n3_ := Aside0.mk (Kd.V_below (by (with_reducible repeat (first | apply Kd.V_alloc | apply Kd.V_drewN | apply Kd.V_drew)); exact HO277.out) hb)
           have n4_ := Aside0.mk (qAi (g := gb247) (o := .cells #[.int .i64 a0_0, .bool a0_1, .int .i64 a0_2, .string a0_3, .slice A0_4 l0_4.length c0_4, .slice A0_5 l0_5.length c0_5] 25 (0, 0)) (by (with_reducible repeat (first | refine qAg ?_ _ | refine qAh ?_ | refine blk_alloc ?_ _)); exact BK247.out) hb)
           have n5_ := Aside0.mk (qAi (g := gb248) (o := .cells #[.int .i64 a1_0, .bool a1_1, .int .i64 a1_2, .string a1_3, .slice A1_4 l1_4.length c1_4, .slice A1_5 l1_5.length c1_5] 25 (0, 0)) (by (with_reducible repeat (first | refine qAg ?_ _ | refine qAh ?_ | refine blk_alloc ?_ _)); exact BK248.out) hb)
           have n6_ := Aside0.mk (qAi (g := gb267) (o := .cells #[.int .i64 t256, .bool t257, .int .i64 t258, .string t259, .slice Ao58 t260.length co58, .slice Ao59 t263.length co59] 25 (0, 0)) (by (with_reducible repeat (first | refine qAg ?_ _ | refine qAh ?_ | refine blk_alloc ?_ _)); exact BK267.out) hb)
           have n7_ := Aside0.mk (qAi (g := gb279) (o := .cells #[.int .i64 t268, .bool t269, .int .i64 t270, .string t271, .slice Ao68 t272.length co68, .slice Ao69 t275.length co69] 25 (0, 0)) (by (with_reducible repeat (first | refine qAg ?_ _ | refine qAh ?_ | refine blk_alloc ?_ _)); exact BK279.out) hb)
           have n8_ := Aside0.mk (qAj (by repeat (first | (with_reducible first | exact HB.out | apply qAd | apply qAc | apply qAe | refine qAf ?_ GE247.out | refine qAf ?_ GE248.out | refine qAf ?_ GE267.out | refine qAf ?_ GE279.out) | exact HB.out)) hb)
           clear HO262
           clear HO265
           clear HO274
           clear HO277
           clear BK247
           clear BK248
           clear BK267
           clear BK279
           clear HB
           have HO262 := n0_
           have HO265 := n1_
           have HO274 := n2_
           have HO277 := n3_
           have BK247 := n4_
           have BK248 := n5_
           have BK267 := n6_
           have BK279 := n7_
           have HB := n8_
           clear n0_ n1_ n2_ n3_ n4_ n5_ n6_ n7_ n8_
           (try clear hb)
           (try clear hb2)
           (try clear hk)
           (try clear hi)
           refine hK.out _ _ ⟨(qAa BK247.out 0).trans rfl, (qAa BK247.out 1).trans rfl, (qAa BK247.out 2).trans rfl, (qAa BK247.out 3).trans rfl, (qAa BK247.out 4).trans rfl, (qAa BK247.out 5).trans rfl, (qAa BK248.out 0).trans rfl, (qAa BK248.out 1).trans rfl, (qAa BK248.out 2).trans rfl, (qAa BK248.out 3).trans rfl, (qAa BK248.out 4).trans rfl, (qAa BK248.out 5).trans rfl, (qAa BK267.out 0).trans rfl, (qAa BK267.out 1).trans rfl, (qAa BK267.out 2).trans rfl, (qAa BK267.out 3).trans rfl, (qAa BK267.out 4).trans rfl, (qAa BK267.out 5).trans rfl, (qAa BK279.out 0).trans rfl, (qAa BK279.out 1).trans rfl, (qAa BK279.out 2).trans rfl, (qAa BK279.out 3).trans rfl, (qAa BK279.out 4).trans rfl, (qAa BK279.out 5).trans rfl⟩ (fun hHeld => ?_)
           clear hK K
           refine norm_ (a' := ?_) ?_ ?_
           rotate_left
           ·show Act.put _ (some 88) _ = _
            simp only [Act.put, List.setIfInBounds_toArray, List.set_cons_zero, List.set_cons_succ, i64_w, i32_w]
            rfl
           refine pure_ (i := 40) (N := some 89) (v := ?_) (a' := ?_) #[true, true, true, true, true, true, true, true, true, true, true, true, true, true, true, true, true, true, true, true, true, true, true, true, true, true, true, true, true, true, true, true, true, true, true, true, true, true, true, true, true, false, false, false, false, false] rfl rfl (any_of HT_.out (by kernel_rfl)) (fun _ _ _ h => h) (Or.inl ⟨by rfl, ?_⟩) ?_ ?_
           rotate_left
           ·intro w'
            go_simp
            with_reducible rfl
           rotate_left
           ·simp only [Act.put, List.setIfInBounds_toArray, List.set_cons_zero, List.set_cons_succ, i64_w, i32_w]
            rfl
           refine pure_ (i := 41) (N := some 90) (v := ?_) (a' := ?_) #[true, true, true, true, true, true, true, true, true, true, true, true, true, true, true, true, true, true, true, true, true, true, true, true, true, true, true, true, true, true, true, true, true, true, true, true, true, true, true, true, true, true, false, false, false, false] rfl rfl (any_of HT_.out (by kernel_rfl)) (fun _ _ _ h => h) (Or.inl ⟨by rfl, ?_⟩) ?_ ?_
           rotate_left
           ·intro w'
            go_simp
            with_reducible rfl
           rotate_left
           ·simp only [Act.put, List.setIfInBounds_toArray, List.set_cons_zero, List.set_cons_succ, i64_w, i32_w]
            rfl
           refine pure_ (i := 42) (N := some 91) (v := ?_) (a' := ?_) #[true, true, true, true, true, true, true, true, true, true, true, true, true, true, true, true, true, true, true, true, true, true, true, true, true, true, true, true, true, true, true, true, true, true, true, true, true, true, true, true, true, true, true, false, false, false] rfl rfl (any_of HT_.out (by kernel_rfl)) (fun _ _ _ h => h) (Or.inl ⟨by rfl, ?_⟩) ?_ ?_
           rotate_left
           ·intro w'
            go_simp
            with_reducible rfl
           rotate_left
           ·simp only [Act.put, List.setIfInBounds_toArray, List.set_cons_zero, List.set_cons_succ, i64_w, i32_w]
            rfl
           refine one_ (i := 43) (N := some 92) #[true, true, true, true, true, true, true, true, true, true, true, true, true, true, true, true, true, true, true, true, true, true, true, true, true, true, true, true, true, true, true, true, true, true, true, true, true, true, true, true, true, true, true, true, false, false] rfl rfl (one_of HT_.out (by kernel_rfl)) (by decide) (fun K hK => ?_)
           refine goes_ Tryd.func15 (by kernel_rfl) rfl #[] (by rfl) rfl rfl (by (try simp only [List.map_toArray, List.map_cons, List.map_nil]); first | done | rfl | (simp only [List.length_drop, List.length_take]; rfl)) ?_
           with_reducible refine (hogsheadlaw15_awake.calls kj3  t288 _ ?side1 A46.out).mono ?_
           (case side1 => exact ⟨Tabs.below hT.out (by repeat (first | (with_reducible first | exact HB.out | apply qAd | apply qAc | apply qAe | refine qAf ?_ GE247.out | refine qAf ?_ GE248.out | refine qAf ?_ GE267.out | refine qAf ?_ GE279.out) | exact HB.out))⟩)
           rintro e w79 ⟨rfl, hb⟩
           refine ⟨_, rfl, ?_⟩
           have n0_ := Aside0.mk (Kd.R_below (by (with_reducible repeat (first | apply Kd.R_alloc | apply Kd.R_drewN | apply Kd.R_drew)); exact HO262.out) hb)
           have n1_ := Aside0.mk (Kd.R_below (by (with_reducible repeat (first | apply Kd.R_alloc | apply Kd.R_drewN | apply Kd.R_drew)); exact HO265.out) hb)
           have n2_ := Aside0.mk (Kd.V_below (by (with_reducible repeat (first | apply Kd.V_alloc | apply Kd.V_drewN | apply Kd.V_drew)); exact HO274.out) hb)
           have n3_ := Aside0.mk (Kd.V_below (by (with_reducible repeat (first | apply Kd.V_alloc | apply Kd.V_drewN | apply Kd.V_drew)); exact HO277.out) hb)
           have n4_ := Aside0.mk (qAi (g := gb247) (o := .cells #[.int .i64 a0_0, .bool a0_1, .int .i64 a0_2, .string a0_3, .slice A0_4 l0_4.length c0_4, .slice A0_5 l0_5.length c0_5] 25 (0, 0)) (by (with_reducible repeat (first | refine qAg ?_ _ | refine qAh ?_ | refine blk_alloc ?_ _)); exact BK247.out) hb)
           have n5_ := Aside0.mk (qAi (g := gb248) (o := .cells #[.int .i64 a1_0, .bool a1_1, .int .i64 a1_2, .string a1_3, .slice A1_4 l1_4.length c1_4, .slice A1_5 l1_5.length c1_5] 25 (0, 0)) (by (with_reducible repeat (first | refine qAg ?_ _ | refine qAh ?_ | refine blk_alloc ?_ _)); exact BK248.out) hb)
           have n6_ := Aside0.mk (qAi (g := gb267) (o := .cells #[.int .i64 t256, .bool t257, .int .i64 t258, .string t259, .slice Ao58 t260.length co58, .slice Ao59 t263.length co59] 25 (0, 0)) (by (with_reducible repeat (first | refine qAg ?_ _ | refine qAh ?_ | refine blk_alloc ?_ _)); exact BK267.out) hb)
           have n7_ := Aside0.mk (qAi (g := gb279) (o := .cells #[.int .i64 t268, .bool t269, .int .i64 t270, .string t271, .slice Ao68 t272.length co68, .slice Ao69 t275.length co69] 25 (0, 0)) (by (with_reducible repeat (first | refine qAg ?_ _ | refine qAh ?_ | refine blk_alloc ?_ _)); exact BK279.out) hb)
           have n8_ := Aside0.mk (qAj (by repeat (first | (with_reducible first | exact HB.out | apply qAd | apply qAc | apply qAe | refine qAf ?_ GE247.out | refine qAf ?_ GE248.out | refine qAf ?_ GE267.out | refine qAf ?_ GE279.out) | exact HB.out)) hb)
           clear HO262
           clear HO265
           clear HO274
           clear HO277
           clear BK247
           clear BK248
           clear BK267
           clear BK279
           clear HB
           have HO262 := n0_
           have HO265 := n1_
           have HO274 := n2_
           have HO277 := n3_
           have BK247 := n4_
           have BK248 := n5_
           have BK267 := n6_
           have BK279 := n7_
           have HB := n8_
           clear n0_ n1_ n2_ n3_ n4_ n5_ n6_ n7_ n8_
           (try clear hb)
           (try clear hb2)
           (try clear hk)
           (try clear hi)
           refine hK.out _ _ ⟨(qAa BK247.out 0).trans rfl, (qAa BK247.out 1).trans rfl, (qAa BK247.out 2).trans rfl, (qAa BK247.out 3).trans rfl, (qAa BK247.out 4).trans rfl, (qAa BK247.out 5).trans rfl, (qAa BK248.out 0).trans rfl, (qAa BK248.out 1).trans rfl, (qAa BK248.out 2).trans rfl, (qAa BK248.out 3).trans rfl, (qAa BK248.out 4).trans rfl, (qAa BK248.out 5).trans rfl, (qAa BK267.out 0).trans rfl, (qAa BK267.out 1).trans rfl, (qAa BK267.out 2).trans rfl, (qAa BK267.out 3).trans rfl, (qAa BK267.out 4).trans rfl, (qAa BK267.out 5).trans rfl, (qAa BK279.out 0).trans rfl, (qAa BK279.out 1).trans rfl, (qAa BK279.out 2).trans rfl, (qAa BK279.out 3).trans rfl, (qAa BK279.out 4).trans rfl, (qAa BK279.out 5).trans rfl⟩ (fun hHeld => ?_)
           clear hK K
           refine norm_ (a' := ?_) ?_ ?_
           rotate_left
           ·show Act.put _ (some 92) _ = _
            simp only [Act.put, List.setIfInBounds_toArray, List.set_cons_zero, List.set_cons_succ, i64_w, i32_w]
            rfl
           refine pure_ (i := 44) (N := some 93) (v := ?_) (a' := ?_) #[true, true, true, true, true, true, true, true, true, true, true, true, true, true, true, true, true, true, true, true, true, true, true, true, true, true, true, true, true, true, true, true, true, true, true, true, true, true, true, true, true, true, true, true, true, false] rfl rfl (any_of HT_.out (by kernel_rfl)) (fun _ _ _ h => h) (Or.inl ⟨by rfl, ?_⟩) ?_ ?_
           rotate_left
           ·intro w'
            go_simp
            with_reducible rfl
           rotate_left
           ·simp only [Act.put, List.setIfInBounds_toArray, List.set_cons_zero, List.set_cons_succ, i64_w, i32_w]
            rfl
           refine pure_ (i := 45) (N := some 6) (v := ?_) (a' := ?_) #[true, true, true, true, true, true, true, true, true, true, true, true, true, true, true, true, true, true, true, true, true, true, true, true, true, true, true, true, true, true, true, true, true, true, true, true, true, true, true, true, true, true, true, true, true, true] rfl rfl (any_of HT_.out (by kernel_rfl)) (fun _ _ _ h => h) (Or.inl ⟨by rfl, ?_⟩) ?_ ?_
           rotate_left
           ·intro w'
            go_simp
            with_reducible rfl
           rotate_left
           ·simp only [Act.put, List.setIfInBounds_toArray, List.set_cons_zero, List.set_cons_succ, i64_w, i32_w]
            rfl
           refine done_ (qCw HT_.out (by kernel_rfl)) ?_
           try go_wp2
           go_ret
           exact ⟨by first | rfl | (simp [qAn, qAm] <;> rfl) | (simp [*, qAn, qAm] <;> rfl), by repeat (first | (with_reducible first | exact HB.out | apply qAd | apply qAc | apply qAe | refine qAf ?_ GE247.out | refine qAf ?_ GE248.out | refine qAf ?_ GE267.out | refine qAf ?_ GE279.out) | exact HB.out)⟩
          ·rw [if_neg c45] at H
           have c45b0 : (t286.toList == t287.toList) = false := beq_eq_false_iff_ne.mpr c45
           have c45b1 : (t286.toList != t287.toList) = true := bne_iff_ne.mpr c45
           exact absurd (H.trans (congrArg some hr_.out)) (by simp)
         ·rw [if_neg c42] at H
          have c42b0 : (t266 == t278) = false := by simpa using c42
          (try (have c42b1 : decide (t266 = t278) = false := by simpa using c42))
          (try (have c42b2 : (t266 == t278) = false := by simpa using c42))
          (try (have c42b3 : ¬ (t266 = t278) := by simpa using c42))
          clear c42
          exact absurd (H.trans (congrArg some hr_.out)) (by simp)
        ·replace c41 := Bool.eq_false_iff.mpr c41
         subst c41
         have H1 : (some false) = some r := by rw [if_neg (show ¬ (false = true) by decide)] at H; exact H
         clear H
         have H := H1
         clear H1
         exact absurd (H.trans (congrArg some hr_.out)) (by simp)
       ·rw [if_neg c39] at H
        have c39b0 : (t283 == t284) = false := by simpa using c39
        (try (have c39b1 : decide (t283 = t284) = false := by simpa using c39))
        (try (have c39b2 : (t283 == t284) = false := by simpa using c39))
        (try (have c39b3 : ¬ (t283 = t284) := by simpa using c39))
        clear c39
        exact absurd (H.trans (congrArg some hr_.out)) (by simp)
      ·rw [if_neg c36] at H
       have c36b0 : (t281 == t282) = false := by simpa using c36
       (try (have c36b1 : decide (t281 = t282) = false := by simpa using c36))
       (try (have c36b2 : (t281 == t282) = false := by simpa using c36))
       (try (have c36b3 : ¬ (t281 = t282) := by simpa using c36))
       clear c36
       exact absurd (H.trans (congrArg some hr_.out)) (by simp)
     ·rw [if_neg c33] at H
      have c33b0 : (t280 == t255) = false := beq_eq_false_iff_ne.mpr c33
      have c33b1 : (t280 != t255) = true := bne_iff_ne.mpr c33
      exact absurd (H.trans (congrArg some hr_.out)) (by simp)
    ·rw [if_neg c31] at H
     have c31b0 : (t252.toList == t254.toList) = false := beq_eq_false_iff_ne.mpr c31
     have c31b1 : (t252.toList != t254.toList) = true := bne_iff_ne.mpr c31
     exact absurd (H.trans (congrArg some hr_.out)) (by simp)
end Go.Proofs.YtbnoihpooeombaaDoor.P

namespace Go.Proofs.YtbnoihpooeombaaDoor.X
open Go.RowKit Go.Proofs.YtbnoihpooeombaaDoorW.PrintWords Go.Proofs.YtbnoihpooeombaaDoor.P
set_option linter.unusedVariables false
set_option linter.unusedSimpArgs false
theorem qHb {x : S25} (h : Small 60 x) : T 60 4000 x := ⟨h.1, by have := h.2; omega⟩
theorem qC0 (key : ByteArray) (a b : S25) : Ev (fun k => hogsheadlaw15_ValueLays.j0 k key true a.f0 a.f1 a.f2 a.f3 a.f4 a.f5 b.f0 b.f1 b.f2 b.f3 b.f4 b.f5) true := by
  obtain ⟨K, hK⟩ := qDj
  refine ⟨K + 1, fun k hk => ?_⟩
  obtain ⟨k, rfl⟩ : ∃ m, k = m + 1 := ⟨k - 1, by omega⟩
  have hK := hK k (by omega)
  simp only at hK
  simp only [hogsheadlaw15_ValueLays.j0]
  rw [if_pos trivial, hK]
  rfl
theorem qE8 (a b : S25) (key : ByteArray) : Ev (fun k => hogsheadlaw15_ValueLays.f k a.f0 a.f1 a.f2 a.f3 a.f4 a.f5 b.f0 b.f1 b.f2 b.f3 b.f4 b.f5 key) true := by
  obtain ⟨ga, ⟨K1, h1⟩, hga⟩ := qGp a 60 (by omega)
  obtain ⟨gb, ⟨K2, h2⟩, hgb⟩ := qGp b 60 (by omega)
  obtain ⟨K3, h3⟩ := qC0 key a b
  have hj : ga = false → gb = false → ¬ ((key.size : Int) > 100) → Ev (fun k => hogsheadlaw15_ValueLays.j0 k key false a.f0 a.f1 a.f2 a.f3 a.f4 a.f5 b.f0 b.f1 b.f2 b.f3 b.f4 b.f5) true := by
    intro e1 e2 e3
    have ha := qHb (hga e1)
    have hb := qHb (hgb e2)
    obtain ⟨K4, h4⟩ := qHt ha
    obtain ⟨K5, h5⟩ := qDb ha
    obtain ⟨K6, h6⟩ := qH0 key ha
    obtain ⟨K7, h7⟩ := qGu key ha
    obtain ⟨K8, h8⟩ := qDu 60 a ha
    obtain ⟨K9, h9⟩ := qFy ha hb
    obtain ⟨K10, h10⟩ := qEv key (by omega)
    obtain ⟨K11, h11⟩ := qB9 key (by omega)
    obtain ⟨K12, h12⟩ := qDj
    have hself : ∃ K, ∀ k, K ≤ k → hogsheadlaw0_SameValue.f k (tup (getV a key)).1 (tup (getV a key)).2.1 (tup (getV a key)).2.2.1 (tup (getV a key)).2.2.2.1 (tup (getV a key)).2.2.2.2.1 (tup (getV a key)).2.2.2.2.2.1 (tup (getV a key)).1 (tup (getV a key)).2.1 (tup (getV a key)).2.2.1 (tup (getV a key)).2.2.2.1 (tup (getV a key)).2.2.2.2.1 (tup (getV a key)).2.2.2.2.2.1 100 = some true := by
      cases hg : getV a key with
      | none => exact qCq 1 (by omega) nilV ⟨qGk.1, by have := qGk.2; omega⟩
      | some y =>
        obtain ⟨E, hE, hT⟩ := qIt ha hg
        exact qCq E (by omega) y ⟨hT.1, by have := hT.2; omega⟩
    obtain ⟨K13, h13⟩ := hself
    refine ⟨K4 + K5 + K6 + K7 + K8 + K9 + K10 + K11 + K12 + K13 + 1, fun k hk => ?_⟩
    obtain ⟨k, rfl⟩ : ∃ m, k = m + 1 := ⟨k - 1, by omega⟩
    have h4 := h4 k (by omega)
    have h5 := h5 k (by omega)
    have h6 := h6 k (by omega)
    have h7 := h7 k (by omega)
    have h8 := h8 k (by omega)
    have h9 := h9 k (by omega)
    have h10 := h10 k (by omega)
    have h11 := h11 k (by omega)
    have h12 := h12 k (by omega)
    have h13 := h13 k (by omega)
    simp only at h4 h5 h6 h7 h8 h9 h10 h11 h12
    simp only [hogsheadlaw15_ValueLays.j0]
    rw [if_neg (by decide), h4, h5]
    simp only [Option.bind_some]
    rw [h6, h7]
    simp only [Option.bind_some]
    rw [if_pos trivial]
    simp only [hogsheadlaw0_Num.f, Option.bind_some]
    rw [if_pos trivial, qEy ha, h8]
    simp only [Option.bind_some]
    rw [if_pos (by simp), qGi ha hb, h9]
    simp only [Option.bind_some]
    rw [if_pos (by simp), h13]
    simp only [Option.bind_some]
    rw [if_pos trivial, if_pos (by simp), h10, h11]
    simp only [Option.bind_some]
    rw [if_pos trivial, h12]
    rfl
  cases ga with
  | true =>
    refine ⟨K1 + K3, fun k hk => ?_⟩
    have h1 := h1 k (by omega)
    have h3 := h3 k (by omega)
    simp only at h1 h3
    show hogsheadlaw15_ValueLays.f k _ _ _ _ _ _ _ _ _ _ _ _ _ = _
    unfold hogsheadlaw15_ValueLays.f
    rw [show (60 : Int) = ((60 : Nat) : Int) from rfl, h1]
    simp only [Option.bind_some]
    rw [if_pos trivial]
    exact h3
  | false =>
    cases gb with
    | true =>
      refine ⟨K1 + K2 + K3, fun k hk => ?_⟩
      have h1 := h1 k (by omega)
      have h2 := h2 k (by omega)
      have h3 := h3 k (by omega)
      simp only at h1 h2 h3
      show hogsheadlaw15_ValueLays.f k _ _ _ _ _ _ _ _ _ _ _ _ _ = _
      unfold hogsheadlaw15_ValueLays.f
      rw [show (60 : Int) = ((60 : Nat) : Int) from rfl, h1]
      simp only [Option.bind_some]
      rw [if_neg (by decide), h2]
      simp only [Option.bind_some]
      rw [if_pos trivial]
      exact h3
    | false =>
      have hfin : Ev (fun k => hogsheadlaw15_ValueLays.j0 k key (decide ((key.size : Int) > 100)) a.f0 a.f1 a.f2 a.f3 a.f4 a.f5 b.f0 b.f1 b.f2 b.f3 b.f4 b.f5) true := by
        by_cases c : (key.size : Int) > 100
        · rw [decide_eq_true c]; exact ⟨K3, h3⟩
        · rw [decide_eq_false c]; exact hj rfl rfl c
      obtain ⟨K4, h4⟩ := hfin
      refine ⟨K1 + K2 + K4, fun k hk => ?_⟩
      have h1 := h1 k (by omega)
      have h2 := h2 k (by omega)
      have h4 := h4 k (by omega)
      simp only at h1 h2 h4
      show hogsheadlaw15_ValueLays.f k _ _ _ _ _ _ _ _ _ _ _ _ _ = _
      unfold hogsheadlaw15_ValueLays.f
      rw [show (60 : Int) = ((60 : Nat) : Int) from rfl, h1]
      simp only [Option.bind_some]
      rw [if_neg (by decide), h2]
      simp only [Option.bind_some]
      rw [if_neg (by decide)]
      exact h4
end Go.Proofs.YtbnoihpooeombaaDoor.X
