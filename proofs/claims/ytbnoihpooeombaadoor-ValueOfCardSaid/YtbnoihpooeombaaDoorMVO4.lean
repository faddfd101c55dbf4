/- Part 4 of what is behind the row RowValueOf: Pf25, Pf19, XVR, XVI, XVJ, XVF, Pf15, XVW, Pf6, Pf32, Pf7, Pf29, XVPB, XVPD, Pf5, XVPE, XVML. -/
import Derived.Test.YtbnoihpooeombaaDoorMVO3
import Derived.Test.YtbnoihpooeombaaDoorProg
import Derived.Below
import Derived.Deep.Draws
import Derived.Deep.AppendLies
import Derived.Maps.AppendAt
import Derived.OwnWalk
import Derived.Laws.BytesArg
import Derived.Laws.MakeOwn
import Derived.Laws.OwnMore
import Derived.Deep.OwnRows
import Derived.Tactics
import Derived.Lib.ConvBytes
import Derived.Laws.Slices
import Derived.WalkKit
import Derived.KernelRfl
import Derived.RowKit3
import Derived.Deep.LoopGhost
import Derived.Deep.QuietTactic
import Derived.BigQuiet
import Derived.WideLaws
import Derived.Deep.DeepCutAuto
import Derived.Deep.CutBlock
import Derived.Deep.RegionHeld3
import Derived.Laws.Rows
import Derived.Lib.AppendStr
import Derived.ArgAppend
import Derived.Laws.IdiomCopy
import Derived.OrdersHeld
import Derived.Laws.BitsLemmas
import Derived.RowKit
import Derived.Laws.Cover1
import Derived.Laws.StructEq
import Derived.Lib.ItoaNum
import Derived.Lib.ItoaMem
import Derived.Deep.AppendSrc
import Derived.Lib.SliceRun
import Derived.Outline
import Derived.WalkLawsBesides
import Derived.WalkSpells
import Derived.LoopTactic
import Derived.Lib.Hide
import Derived.Lib.IndexMore
import Derived.Lib.Bytealg
import Derived.Laws.BitsAllLaws
import Derived.Lib.Repeat
import Derived.Deep.DeepMust
import Derived.Lib.ItoaLen
import Derived.Laws.Bits64b
import Derived.Laws.NewBlocks
import Derived.Lib.AppendIntMem
import Derived.Shelf.Strings.Builder1
import Derived.Shelf.Strings.Builder2
import Derived.Shelf.Strings.OnBuilder
import Derived.Shelf.Strings.BuilderF
import Derived.Shelf.Strings.BuilderK
import Derived.Shelf.Strconv.Itoa0
import Derived.Shelf.Strconv.Itoa1
import Derived.Shelf.LaysM
import Derived.Shelf.Strconv.Itoa2
import Derived.Shelf.Strconv.Itoa3
import Derived.Shelf.Strings.Prefix
import Derived.Shelf.Bits.Mul64
import Derived.Shelf.Strings.Repeat
import Derived.Lib.AppendZerosOnto
import Derived.Lib.Overlaps
import Derived.Laws.Externs
import Derived.Laws.CopyOwn
import Derived.Shelf.RegionOpenPlain
import Derived.Deep.RegionLaw
namespace Go.Proofs.YtbnoihpooeombaaDoor.P
open Go.Proofs.YtbnoihpooeombaaDoor.X
open Go.RowKit Go.Proofs.YtbnoihpooeombaaDoorW.PrintWords Go.Proofs.YtbnoihpooeombaaDoorW.PrintLast Go.Proofs.YtbnoihpooeombaaDoorW.PrintMore
attribute [local go_sem] qAr qAx
set_option linter.unusedVariables false
set_option linter.unusedSimpArgs false
mutual
def hogsheadlaw0_SameValue.j0 : Nat → Int → Bool → Int → Bool → Int → ByteArray → List (S25) → List ByteArray → Int → Bool → Int → ByteArray → List (S25) → List ByteArray → Option (Bool)
 | 0, _, _, _, _, _, _, _, _, _, _, _, _, _, _ => none
 | k + 1, x2, x54, x215000, x215001, x215002, x215003, x215004, x215005, x216000, x216001, x216002, x216003, x216004, x216005 => if x54 = true then (some false) else (hogsheadlaw0_SameValue.l0 k x2 0 x215000 x215001 x215002 x215003 x215004 x215005 x216000 x216001 x216002 x216003 x216004 x216005)
def hogsheadlaw0_SameValue.l0 : Nat → Int → Int → Int → Bool → Int → ByteArray → List (S25) → List ByteArray → Int → Bool → Int → ByteArray → List (S25) → List ByteArray → Option (Bool)
 | 0, _, _, _, _, _, _, _, _, _, _, _, _, _, _ => none
 | k + 1, x2, x7, x215000, x215001, x215002, x215003, x215004, x215005, x216000, x216001, x216002, x216003, x216004, x216005 => if x7 < (x215004.length : Int) then (if 0 ≤ x7 then (if x7 < (x216004.length : Int) then ((hogsheadlaw0_SameValue.f k ((rd_T25 x215004 x7).f0) ((rd_T25 x215004 x7).f1) ((rd_T25 x215004 x7).f2) ((rd_T25 x215004 x7).f3) ((rd_T25 x215004 x7).f4) ((rd_T25 x215004 x7).f5) ((rd_T25 x216004 x7).f0) ((rd_T25 x216004 x7).f1) ((rd_T25 x216004 x7).f2) ((rd_T25 x216004 x7).f3) ((rd_T25 x216004 x7).f4) ((rd_T25 x216004 x7).f5) (wrap64 (x2 - 1))).bind fun t219 => (if t219 = true then (hogsheadlaw0_SameValue.l0 k x2 (wrap64 (x7 + 1)) x215000 x215001 x215002 x215003 x215004 x215005 x216000 x216001 x216002 x216003 x216004 x216005) else (some false))) else (none)) else (none)) else (some true)
def hogsheadlaw0_SameValue.f : Nat → Int → Bool → Int → ByteArray → List (S25) → List ByteArray → Int → Bool → Int → ByteArray → List (S25) → List ByteArray → Int → Option (Bool)
 | 0, _, _, _, _, _, _, _, _, _, _, _, _, _ => none
 | k + 1, a0_0, a0_1, a0_2, a0_3, l0_4, l0_5, a1_0, a1_1, a1_2, a1_3, l1_4, l1_5, a2 => if a0_0 = a1_0 then (if (a0_1 != a1_1) = true then (hogsheadlaw0_SameValue.j0 k a2 true a0_0 a0_1 a0_2 a0_3 l0_4 l0_5 a1_0 a1_1 a1_2 a1_3 l1_4 l1_5) else (if a0_2 = a1_2 then (if a0_3.toList = a1_3.toList then ((hogsheadlaw0_SameTexts.f k l0_5 l1_5).bind fun t216 => (if t216 = true then (if (l0_4.length : Int) = (l1_4.length : Int) then (hogsheadlaw0_SameValue.j0 k a2 (decide (a2 < 1)) a0_0 a0_1 a0_2 a0_3 l0_4 l0_5 a1_0 a1_1 a1_2 a1_3 l1_4 l1_5) else (hogsheadlaw0_SameValue.j0 k a2 true a0_0 a0_1 a0_2 a0_3 l0_4 l0_5 a1_0 a1_1 a1_2 a1_3 l1_4 l1_5)) else (hogsheadlaw0_SameValue.j0 k a2 true a0_0 a0_1 a0_2 a0_3 l0_4 l0_5 a1_0 a1_1 a1_2 a1_3 l1_4 l1_5))) else (hogsheadlaw0_SameValue.j0 k a2 true a0_0 a0_1 a0_2 a0_3 l0_4 l0_5 a1_0 a1_1 a1_2 a1_3 l1_4 l1_5)) else (hogsheadlaw0_SameValue.j0 k a2 true a0_0 a0_1 a0_2 a0_3 l0_4 l0_5 a1_0 a1_1 a1_2 a1_3 l1_4 l1_5))) else (hogsheadlaw0_SameValue.j0 k a2 true a0_0 a0_1 a0_2 a0_3 l0_4 l0_5 a1_0 a1_1 a1_2 a1_3 l1_4 l1_5)
end
def hogsheadlaw0_SameValue.T6 : Bool × List (List Nat × List Nat) := (true, [([], []), ([0], [0]), ([], []), ([1, 2], [1, 2]), ([3], [3]), ([], []), ([5], [5]), ([], []), ([6, 7], [6, 7]), ([8], [8]), ([], []), ([10], [10]), ([4, 9, 11], [4, 9, 11]), ([12], [12])])
def hogsheadlaw0_SameValue.B6 : List Nat := [0, 1, 0, 7, 15, 0, 32, 0, 224, 480, 0, 1024, 4095, 8191]
theorem hogsheadlaw0_SameValue.tab6 : rtab .any (opsOf Tryd.f25 6) = hogsheadlaw0_SameValue.T6 := by kernel_rfl
theorem hogsheadlaw0_SameValue.bits6 : qCw hogsheadlaw0_SameValue.T6.2 hogsheadlaw0_SameValue.B6 = true := by kernel_rfl
set_option maxHeartbeats 8000000 in
set_option maxRecDepth 100000 in
theorem hogsheadlaw0_SameValue.calls (k : Nat) : ∀ (a0_0 : Int) (a0_1 : Bool) (a0_2 : Int) (a0_3 : ByteArray) (A0_4 : Option Addr) (c0_4 : Nat) (l0_4 : List (S25)) (A0_5 : Option Addr) (c0_5 : Nat) (l0_5 : List ByteArray) (a1_0 : Int) (a1_1 : Bool) (a1_2 : Int) (a1_3 : ByteArray) (A1_4 : Option Addr) (c1_4 : Nat) (l1_4 : List (S25)) (A1_5 : Option Addr) (c1_5 : Nat) (l1_5 : List ByteArray) (a2 : Int) (r : Bool) (w : World) (hr0_4 : Kd.C k25 w A0_4 l0_4.length l0_4) (hc0_4 : l0_4.length ≤ c0_4) (hr0_5 : Kd.C Kd.string w A0_5 l0_5.length l0_5) (hc0_5 : l0_5.length ≤ c0_5) (hr1_4 : Kd.C k25 w A1_4 l1_4.length l1_4) (hc1_4 : l1_4.length ≤ c1_4) (hr1_5 : Kd.C Kd.string w A1_5 l1_5.length l1_5) (hc1_5 : l1_5.length ≤ c1_5) (h : hogsheadlaw0_SameValue.f k a0_0 a0_1 a0_2 a0_3 l0_4 l0_5 a1_0 a1_1 a1_2 a1_3 l1_4 l1_5 a2 = some r),
  Calls Tryd.prog 25 #[.agg #[.int .i64 a0_0, .bool a0_1, .int .i64 a0_2, .string a0_3, .slice A0_4 l0_4.length c0_4, .slice A0_5 l0_5.length c0_5], .agg #[.int .i64 a1_0, .bool a1_1, .int .i64 a1_2, .string a1_3, .slice A1_4 l1_4.length c1_4, .slice A1_5 l1_5.length c1_5], .int .i64 a2] w fun e w' => e = .returned (.bool r) ∧ Below w.heap.size w w' := by
 induction k using Nat.strongRecOn with
 | _ k ih =>
 intro a0_0 a0_1 a0_2 a0_3 A0_4 c0_4 l0_4 A0_5 c0_5 l0_5 a1_0 a1_1 a1_2 a1_3 A1_4 c1_4 l1_4 A1_5 c1_5 l1_5 a2 r w hr0_4 hc0_4 hr0_5 hc0_5 hr1_4 hc1_4 hr1_5 hc1_5 h
 cases k with
 | zero => exact absurd h (by simp [hogsheadlaw0_SameValue.f])
 | succ k =>
 simp only [hogsheadlaw0_SameValue.f] at h
 have hu25 := Tryd.underlying25
 have HR0_4 := Aside0.mk hr0_4
 have HC0_4 := Aside0.mk hc0_4
 clear hr0_4 hc0_4
 have HR0_5 := Aside0.mk hr0_5
 have HC0_5 := Aside0.mk hc0_5
 clear hr0_5 hc0_5
 have HR1_4 := Aside0.mk hr1_4
 have HC1_4 := Aside0.mk hc1_4
 clear hr1_4 hc1_4
 have HR1_5 := Aside0.mk hr1_5
 have HC1_5 := Aside0.mk hc1_5
 clear hr1_5 hc1_5
 have HB := Aside0.mk (Below.refl w.heap.size w)
 have H : (if a0_0 = a1_0 then (if (a0_1 != a1_1) = true then (hogsheadlaw0_SameValue.j0 k a2 true a0_0 a0_1 a0_2 a0_3 l0_4 l0_5 a1_0 a1_1 a1_2 a1_3 l1_4 l1_5) else (if a0_2 = a1_2 then (if a0_3.toList = a1_3.toList then ((hogsheadlaw0_SameTexts.f k l0_5 l1_5).bind fun t216 => (if t216 = true then (if (l0_4.length : Int) = (l1_4.length : Int) then (hogsheadlaw0_SameValue.j0 k a2 (decide (a2 < 1)) a0_0 a0_1 a0_2 a0_3 l0_4 l0_5 a1_0 a1_1 a1_2 a1_3 l1_4 l1_5) else (hogsheadlaw0_SameValue.j0 k a2 true a0_0 a0_1 a0_2 a0_3 l0_4 l0_5 a1_0 a1_1 a1_2 a1_3 l1_4 l1_5)) else (hogsheadlaw0_SameValue.j0 k a2 true a0_0 a0_1 a0_2 a0_3 l0_4 l0_5 a1_0 a1_1 a1_2 a1_3 l1_4 l1_5))) else (hogsheadlaw0_SameValue.j0 k a2 true a0_0 a0_1 a0_2 a0_3 l0_4 l0_5 a1_0 a1_1 a1_2 a1_3 l1_4 l1_5)) else (hogsheadlaw0_SameValue.j0 k a2 true a0_0 a0_1 a0_2 a0_3 l0_4 l0_5 a1_0 a1_1 a1_2 a1_3 l1_4 l1_5))) else (hogsheadlaw0_SameValue.j0 k a2 true a0_0 a0_1 a0_2 a0_3 l0_4 l0_5 a1_0 a1_1 a1_2 a1_3 l1_4 l1_5)) = some r := h
 clear h
 have HC4 := Aside0.mk H
 clear H
 go_enter Tryd.func25, Tryd.ntmps25
 go_upto_region 1 with (first | ((with_reducible refine qAy (N := 3) rfl ?_); (try (refine qBn (by rfl) ?_; dsimp only)); refine qAv ?hg (N := 3) ?hd (cs := #[.int .i64 a0_0, .bool a0_1, .int .i64 a0_2, .string a0_3, .slice A0_4 l0_4.length c0_4, .slice A0_5 l0_5.length c0_5]) (t := 25) ?hr ?_; (case hd => rfl); (case hg => rfl); (case hr => first | (go_simp; done) | (go_simp; rfl)); intro gb214 hg w5 hbox hb; have n0_ := Aside0.mk (qAj (by repeat (first | (with_reducible first | exact HB.out | apply qAd | apply qAc | apply qAe) | exact HB.out)) hb); have n1_ := Aside0.mk (hbox); have n2_ := Aside0.mk ((by rw [hg]; exact (qAn (by repeat (first | (with_reducible first | exact HB.out | apply qAd | apply qAc | apply qAe) | exact HB.out))) : w.heap.size ≤ gb214)); have n3_ := Aside0.mk ((by rw [hg]; exact (qAn (by repeat (first | (with_reducible first | exact HB.out | apply qAd | apply qAc | apply qAe) | exact HB.out))) : w.heap.size ≤ gb214)); clear HB; have HB := n0_; have BK214 := n1_; have GW214 := n2_; have GE214 := n3_; clear n0_ n1_ n2_ n3_; clear hb hbox hg) | ((with_reducible refine qAy (N := 4) rfl ?_); (try (refine qBn (by rfl) ?_; dsimp only)); refine qAv ?hg (N := 4) ?hd (cs := #[.int .i64 a1_0, .bool a1_1, .int .i64 a1_2, .string a1_3, .slice A1_4 l1_4.length c1_4, .slice A1_5 l1_5.length c1_5]) (t := 25) ?hr ?_; (case hd => rfl); (case hg => rfl); (case hr => first | (go_simp; done) | (go_simp; rfl)); intro gb215 hg w6 hbox hb; have n0_ := Aside0.mk (qAm (g := gb214) (o := .cells #[.int .i64 a0_0, .bool a0_1, .int .i64 a0_2, .string a0_3, .slice A0_4 l0_4.length c0_4, .slice A0_5 l0_5.length c0_5] 25 (0, 0)) (by (with_reducible repeat (first | refine qAg ?_ _ | refine qAi ?_ | refine blk_alloc ?_ _)); exact BK214.out) hb); have n1_ := Aside0.mk (qAj (by repeat (first | (with_reducible first | exact HB.out | apply qAd | apply qAc | apply qAe | refine qAf ?_ GE214.out) | exact HB.out)) hb); have n2_ := Aside0.mk (hbox); have n3_ := Aside0.mk ((by rw [hg]; exact (qAn (by repeat (first | (with_reducible first | exact HB.out | apply qAd | apply qAc | apply qAe | refine qAf ?_ GE214.out) | exact HB.out))) : w.heap.size ≤ gb215)); have n4_ := Aside0.mk ((by rw [hg]; exact (qAn (by repeat (first | (with_reducible first | exact HB.out | apply qAd | apply qAc | apply qAe | refine qAf ?_ GE214.out) | exact HB.out))) : w.heap.size ≤ gb215)); have n5_ := Aside0.mk ((by rw [hg]; exact Nat.ne_of_lt (blk_lt (g := gb214) (o := .cells #[.int .i64 a0_0, .bool a0_1, .int .i64 a0_2, .string a0_3, .slice A0_4 l0_4.length c0_4, .slice A0_5 l0_5.length c0_5] 25 (0, 0)) (by (with_reducible repeat (first | refine qAg ?_ _ | refine qAi ?_ | refine blk_alloc ?_ _)); exact BK214.out)) : gb214 ≠ gb215)); have n6_ := Aside0.mk ((by rw [hg]; exact Nat.ne_of_gt (blk_lt (g := gb214) (o := .cells #[.int .i64 a0_0, .bool a0_1, .int .i64 a0_2, .string a0_3, .slice A0_4 l0_4.length c0_4, .slice A0_5 l0_5.length c0_5] 25 (0, 0)) (by (with_reducible repeat (first | refine qAg ?_ _ | refine qAi ?_ | refine blk_alloc ?_ _)); exact BK214.out)) : gb215 ≠ gb214)); clear BK214; clear HB; have BK214 := n0_; have HB := n1_; have BK215 := n2_; have GW215 := n3_; have GE215 := n4_; have NB214_215 := n5_; have NB215_214 := n6_; clear n0_ n1_ n2_ n3_ n4_ n5_ n6_; clear hb hbox hg))
 (try simp only [Act.put, List.setIfInBounds_toArray, List.set_cons_zero, List.set_cons_succ])
 go_cut [54] (fun v54 wc => ∃ (kq : Nat) (x54_3 : Bool), v54 = .bool x54_3 ∧ Aside0 (hogsheadlaw0_SameValue.j0 kq a2 x54_3 a0_0 a0_1 a0_2 a0_3 l0_4 l0_5 a1_0 a1_1 a1_2 a1_3 l1_4 l1_5 = some r) ∧ Aside0 (kq ≤ k) ∧ Aside0 (wc.heap[gb214]? = some (.cells #[.int .i64 a0_0, .bool a0_1, .int .i64 a0_2, .string a0_3, (.slice A0_4 l0_4.length c0_4), (.slice A0_5 l0_5.length c0_5)] 25 (0, 0))) ∧ Aside0 (wc.heap[gb215]? = some (.cells #[.int .i64 a1_0, .bool a1_1, .int .i64 a1_2, .string a1_3, (.slice A1_4 l1_4.length c1_4), (.slice A1_5 l1_5.length c1_5)] 25 (0, 0))) ∧ Aside0 (Below w.heap.size w wc))
 case first =>
  have H := HC4.out
  clear HC4
  by_cases c7 : a0_0 = a1_0
  ·rw [if_pos c7] at H
   have c7b0 : (a0_0 == a1_0) = true := beq_iff_eq.mpr c7
   have c7b1 : (a0_0 != a1_0) = false := bne_eq_false_iff_eq.mpr c7
   clear c7
   (first | rw [c7b0] | (simp only [i64_w, i32_w]; rw [c7b0]) | skip)
   by_cases c8 : (a0_1 != a1_1) = true
   ·rw [if_pos c8] at H
    have c8b0 : (a0_1 != a1_1) = true := c8
    (try (have c8b1 : decide (a0_1 = a1_1) = false := by simpa using c8))
    (try (have c8b2 : (a0_1 == a1_1) = false := by simpa using c8))
    (try (have c8b3 : ¬ (a0_1 = a1_1) := by simpa using c8))
    clear c8
    have H' := Aside0.mk H
    clear H
    have hnb9 := NB214_215.out
    have hnc9 := NB215_214.out
    have hcz10_0 : w6.cell? ⟨gb214, 0, none⟩ = some (.int .i64 a0_0) := (qAb BK214.out 0).trans rfl
    have hcz10_1 : w6.cell? ⟨gb214, 1, none⟩ = some (.bool a0_1) := (qAb BK214.out 1).trans rfl
    have hcz10_2 : w6.cell? ⟨gb214, 2, none⟩ = some (.int .i64 a0_2) := (qAb BK214.out 2).trans rfl
    have hcz10_3 : w6.cell? ⟨gb214, 3, none⟩ = some (.string a0_3) := (qAb BK214.out 3).trans rfl
    have hcz10_4 : w6.cell? ⟨gb214, 4, none⟩ = some (.slice A0_4 l0_4.length c0_4) := (qAb BK214.out 4).trans rfl
    have hcz10_5 : w6.cell? ⟨gb214, 5, none⟩ = some (.slice A0_5 l0_5.length c0_5) := (qAb BK214.out 5).trans rfl
    have hfz10_0 := qAa BK214.out 0
    have hfz10_1 := qAa BK214.out 1
    have hfz10_2 := qAa BK214.out 2
    have hfz10_3 := qAa BK214.out 3
    have hfz10_4 := qAa BK214.out 4
    have hfz10_5 := qAa BK214.out 5
    have hcz11_0 : w6.cell? ⟨gb215, 0, none⟩ = some (.int .i64 a1_0) := (qAb BK215.out 0).trans rfl
    have hcz11_1 : w6.cell? ⟨gb215, 1, none⟩ = some (.bool a1_1) := (qAb BK215.out 1).trans rfl
    have hcz11_2 : w6.cell? ⟨gb215, 2, none⟩ = some (.int .i64 a1_2) := (qAb BK215.out 2).trans rfl
    have hcz11_3 : w6.cell? ⟨gb215, 3, none⟩ = some (.string a1_3) := (qAb BK215.out 3).trans rfl
    have hcz11_4 : w6.cell? ⟨gb215, 4, none⟩ = some (.slice A1_4 l1_4.length c1_4) := (qAb BK215.out 4).trans rfl
    have hcz11_5 : w6.cell? ⟨gb215, 5, none⟩ = some (.slice A1_5 l1_5.length c1_5) := (qAb BK215.out 5).trans rfl
    have hfz11_0 := qAa BK215.out 0
    have hfz11_1 := qAa BK215.out 1
    have hfz11_2 := qAa BK215.out 2
    have hfz11_3 := qAa BK215.out 3
    have hfz11_4 := qAa BK215.out 4
    have hfz11_5 := qAa BK215.out 5
    go_wp2
    go_meet
    case rel => exact ⟨_, (true), (by first | rfl | (simp; done) | (simp [*]; done) | exact congrArg Value.bool (nil_ne _) | exact congrArg Value.bool (nil_eq _) | exact congrArg Value.bool (nil_ne' _)), H', ⟨by first | omega | exact Nat.le_refl _⟩, ⟨by (with_reducible repeat (first | refine qAg ?_ _ | refine qAi ?_ | refine blk_alloc ?_ _)); exact BK214.out⟩, ⟨by (with_reducible repeat (first | refine qAg ?_ _ | refine qAi ?_ | refine blk_alloc ?_ _)); exact BK215.out⟩, ⟨by repeat (first | (with_reducible first | exact HB.out | apply qAd | apply qAc | apply qAe | refine qAf ?_ GE214.out | refine qAf ?_ GE215.out) | exact HB.out)⟩⟩
   ·rw [if_neg c8] at H
    have c8b0 : (a0_1 != a1_1) = false := by simpa using c8
    (try (have c8b1 : decide (a0_1 = a1_1) = true := by simpa using c8))
    (try (have c8b2 : (a0_1 == a1_1) = true := by simpa using c8))
    clear c8
    by_cases c12 : a0_2 = a1_2
    ·rw [if_pos c12] at H
     have c12b0 : (a0_2 == a1_2) = true := beq_iff_eq.mpr c12
     have c12b1 : (a0_2 != a1_2) = false := bne_eq_false_iff_eq.mpr c12
     clear c12
     by_cases c13 : a0_3.toList = a1_3.toList
     ·rw [if_pos c13] at H
      have c13b0 : (a0_3.toList == a1_3.toList) = true := beq_iff_eq.mpr c13
      have c13b1 : (a0_3.toList != a1_3.toList) = false := bne_eq_false_iff_eq.mpr c13
      clear c13
      replace H := Option.bind_eq_some_iff.mp H
      obtain ⟨t216, A140, H⟩ := H
      replace H : (if t216 = true then (if (l0_4.length : Int) = (l1_4.length : Int) then (hogsheadlaw0_SameValue.j0 k a2 (decide (a2 < 1)) a0_0 a0_1 a0_2 a0_3 l0_4 l0_5 a1_0 a1_1 a1_2 a1_3 l1_4 l1_5) else (hogsheadlaw0_SameValue.j0 k a2 true a0_0 a0_1 a0_2 a0_3 l0_4 l0_5 a1_0 a1_1 a1_2 a1_3 l1_4 l1_5)) else (hogsheadlaw0_SameValue.j0 k a2 true a0_0 a0_1 a0_2 a0_3 l0_4 l0_5 a1_0 a1_1 a1_2 a1_3 l1_4 l1_5)) = some r := H
      have A14 := Aside0.mk A140
      clear A140
      by_cases c15 : t216 = true
      ·subst c15
       have H1 : (if (l0_4.length : Int) = (l1_4.length : Int) then (hogsheadlaw0_SameValue.j0 k a2 (decide (a2 < 1)) a0_0 a0_1 a0_2 a0_3 l0_4 l0_5 a1_0 a1_1 a1_2 a1_3 l1_4 l1_5) else (hogsheadlaw0_SameValue.j0 k a2 true a0_0 a0_1 a0_2 a0_3 l0_4 l0_5 a1_0 a1_1 a1_2 a1_3 l1_4 l1_5)) = some r := by rw [if_pos rfl] at H; exact H
       clear H
       have H := H1
       clear H1
       by_cases c16 : (l0_4.length : Int) = (l1_4.length : Int)
       ·rw [if_pos c16] at H
        have c16b0 : ((l0_4.length : Int) == (l1_4.length : Int)) = true := beq_iff_eq.mpr c16
        have c16b1 : ((l0_4.length : Int) != (l1_4.length : Int)) = false := bne_eq_false_iff_eq.mpr c16
        have c16b2 : (l0_4.length == l1_4.length) = true := by first | simpa using c16 | (simp at c16 ⊢; omega)
        clear c16
        have H' := Aside0.mk H
        clear H
        have hnb17 := NB214_215.out
        have hnc17 := NB215_214.out
        have hcz18_0 : w6.cell? ⟨gb214, 0, none⟩ = some (.int .i64 a0_0) := (qAb BK214.out 0).trans rfl
        have hcz18_1 : w6.cell? ⟨gb214, 1, none⟩ = some (.bool a0_1) := (qAb BK214.out 1).trans rfl
        have hcz18_2 : w6.cell? ⟨gb214, 2, none⟩ = some (.int .i64 a0_2) := (qAb BK214.out 2).trans rfl
        have hcz18_3 : w6.cell? ⟨gb214, 3, none⟩ = some (.string a0_3) := (qAb BK214.out 3).trans rfl
        have hcz18_4 : w6.cell? ⟨gb214, 4, none⟩ = some (.slice A0_4 l0_4.length c0_4) := (qAb BK214.out 4).trans rfl
        have hcz18_5 : w6.cell? ⟨gb214, 5, none⟩ = some (.slice A0_5 l0_5.length c0_5) := (qAb BK214.out 5).trans rfl
        have hfz18_0 := qAa BK214.out 0
        have hfz18_1 := qAa BK214.out 1
        have hfz18_2 := qAa BK214.out 2
        have hfz18_3 := qAa BK214.out 3
        have hfz18_4 := qAa BK214.out 4
        have hfz18_5 := qAa BK214.out 5
        have hcz19_0 : w6.cell? ⟨gb215, 0, none⟩ = some (.int .i64 a1_0) := (qAb BK215.out 0).trans rfl
        have hcz19_1 : w6.cell? ⟨gb215, 1, none⟩ = some (.bool a1_1) := (qAb BK215.out 1).trans rfl
        have hcz19_2 : w6.cell? ⟨gb215, 2, none⟩ = some (.int .i64 a1_2) := (qAb BK215.out 2).trans rfl
        have hcz19_3 : w6.cell? ⟨gb215, 3, none⟩ = some (.string a1_3) := (qAb BK215.out 3).trans rfl
        have hcz19_4 : w6.cell? ⟨gb215, 4, none⟩ = some (.slice A1_4 l1_4.length c1_4) := (qAb BK215.out 4).trans rfl
        have hcz19_5 : w6.cell? ⟨gb215, 5, none⟩ = some (.slice A1_5 l1_5.length c1_5) := (qAb BK215.out 5).trans rfl
        have hfz19_0 := qAa BK215.out 0
        have hfz19_1 := qAa BK215.out 1
        have hfz19_2 := qAa BK215.out 2
        have hfz19_3 := qAa BK215.out 3
        have hfz19_4 := qAa BK215.out 4
        have hfz19_5 := qAa BK215.out 5
        go_wp2_with (first | (go_at_call 55; (with_reducible refine (hogsheadlaw0_SameTexts.calls k _ _ l0_5 _ _ l1_5 true _ ?side1 ?side2 ?side3 ?side4 A14.out).mono ?_); (case side1 => repeat (first | exact (Kd.C_below HR0_5.out HB.out) | (with_reducible refine Kd.C_alloc ?_ _) | (with_reducible refine Kd.C_drewN ?_ _) | (with_reducible refine Kd.C_drew ?_))); (case side2 => exact HC0_5.out); (case side3 => repeat (first | exact (Kd.C_below HR1_5.out HB.out) | (with_reducible refine Kd.C_alloc ?_ _) | (with_reducible refine Kd.C_drewN ?_ _) | (with_reducible refine Kd.C_drew ?_))); (case side4 => exact HC1_5.out); rintro e w' ⟨rfl, ⟨nd, rfl⟩⟩))
        go_meet
        case rel => exact ⟨_, (decide (a2 < 1)), (by first | rfl | (simp; done) | (simp [*]; done) | exact congrArg Value.bool (nil_ne _) | exact congrArg Value.bool (nil_eq _) | exact congrArg Value.bool (nil_ne' _)), H', ⟨by first | omega | exact Nat.le_refl _⟩, ⟨by (with_reducible repeat (first | refine qAg ?_ _ | refine qAi ?_ | refine blk_alloc ?_ _)); exact BK214.out⟩, ⟨by (with_reducible repeat (first | refine qAg ?_ _ | refine qAi ?_ | refine blk_alloc ?_ _)); exact BK215.out⟩, ⟨by repeat (first | (with_reducible first | exact HB.out | apply qAd | apply qAc | apply qAe | refine qAf ?_ GE214.out | refine qAf ?_ GE215.out) | exact HB.out)⟩⟩
       ·rw [if_neg c16] at H
        have c16b0 : ((l0_4.length : Int) == (l1_4.length : Int)) = false := beq_eq_false_iff_ne.mpr c16
        have c16b1 : ((l0_4.length : Int) != (l1_4.length : Int)) = true := bne_iff_ne.mpr c16
        have c16b2 : (l0_4.length == l1_4.length) = false := by first | simpa using c16 | (simp at c16 ⊢; omega)
        have H' := Aside0.mk H
        clear H
        have hnb20 := NB214_215.out
        have hnc20 := NB215_214.out
        have hcz21_0 : w6.cell? ⟨gb214, 0, none⟩ = some (.int .i64 a0_0) := (qAb BK214.out 0).trans rfl
        have hcz21_1 : w6.cell? ⟨gb214, 1, none⟩ = some (.bool a0_1) := (qAb BK214.out 1).trans rfl
        have hcz21_2 : w6.cell? ⟨gb214, 2, none⟩ = some (.int .i64 a0_2) := (qAb BK214.out 2).trans rfl
        have hcz21_3 : w6.cell? ⟨gb214, 3, none⟩ = some (.string a0_3) := (qAb BK214.out 3).trans rfl
        have hcz21_4 : w6.cell? ⟨gb214, 4, none⟩ = some (.slice A0_4 l0_4.length c0_4) := (qAb BK214.out 4).trans rfl
        have hcz21_5 : w6.cell? ⟨gb214, 5, none⟩ = some (.slice A0_5 l0_5.length c0_5) := (qAb BK214.out 5).trans rfl
        have hfz21_0 := qAa BK214.out 0
        have hfz21_1 := qAa BK214.out 1
        have hfz21_2 := qAa BK214.out 2
        have hfz21_3 := qAa BK214.out 3
        have hfz21_4 := qAa BK214.out 4
        have hfz21_5 := qAa BK214.out 5
        have hcz22_0 : w6.cell? ⟨gb215, 0, none⟩ = some (.int .i64 a1_0) := (qAb BK215.out 0).trans rfl
        have hcz22_1 : w6.cell? ⟨gb215, 1, none⟩ = some (.bool a1_1) := (qAb BK215.out 1).trans rfl
        have hcz22_2 : w6.cell? ⟨gb215, 2, none⟩ = some (.int .i64 a1_2) := (qAb BK215.out 2).trans rfl
        have hcz22_3 : w6.cell? ⟨gb215, 3, none⟩ = some (.string a1_3) := (qAb BK215.out 3).trans rfl
        have hcz22_4 : w6.cell? ⟨gb215, 4, none⟩ = some (.slice A1_4 l1_4.length c1_4) := (qAb BK215.out 4).trans rfl
        have hcz22_5 : w6.cell? ⟨gb215, 5, none⟩ = some (.slice A1_5 l1_5.length c1_5) := (qAb BK215.out 5).trans rfl
        have hfz22_0 := qAa BK215.out 0
        have hfz22_1 := qAa BK215.out 1
        have hfz22_2 := qAa BK215.out 2
        have hfz22_3 := qAa BK215.out 3
        have hfz22_4 := qAa BK215.out 4
        have hfz22_5 := qAa BK215.out 5
        go_wp2_with (first | (go_at_call 55; (with_reducible refine (hogsheadlaw0_SameTexts.calls k _ _ l0_5 _ _ l1_5 true _ ?side1 ?side2 ?side3 ?side4 A14.out).mono ?_); (case side1 => repeat (first | exact (Kd.C_below HR0_5.out HB.out) | (with_reducible refine Kd.C_alloc ?_ _) | (with_reducible refine Kd.C_drewN ?_ _) | (with_reducible refine Kd.C_drew ?_))); (case side2 => exact HC0_5.out); (case side3 => repeat (first | exact (Kd.C_below HR1_5.out HB.out) | (with_reducible refine Kd.C_alloc ?_ _) | (with_reducible refine Kd.C_drewN ?_ _) | (with_reducible refine Kd.C_drew ?_))); (case side4 => exact HC1_5.out); rintro e w' ⟨rfl, ⟨nd, rfl⟩⟩))
        go_meet
        case rel => exact ⟨_, (true), (by first | rfl | (simp; done) | (simp [*]; done) | exact congrArg Value.bool (nil_ne _) | exact congrArg Value.bool (nil_eq _) | exact congrArg Value.bool (nil_ne' _)), H', ⟨by first | omega | exact Nat.le_refl _⟩, ⟨by (with_reducible repeat (first | refine qAg ?_ _ | refine qAi ?_ | refine blk_alloc ?_ _)); exact BK214.out⟩, ⟨by (with_reducible repeat (first | refine qAg ?_ _ | refine qAi ?_ | refine blk_alloc ?_ _)); exact BK215.out⟩, ⟨by repeat (first | (with_reducible first | exact HB.out | apply qAd | apply qAc | apply qAe | refine qAf ?_ GE214.out | refine qAf ?_ GE215.out) | exact HB.out)⟩⟩
      ·replace c15 := Bool.eq_false_iff.mpr c15
       subst c15
       have H1 : (hogsheadlaw0_SameValue.j0 k a2 true a0_0 a0_1 a0_2 a0_3 l0_4 l0_5 a1_0 a1_1 a1_2 a1_3 l1_4 l1_5) = some r := by rw [if_neg (show ¬ (false = true) by decide)] at H; exact H
       clear H
       have H := H1
       clear H1
       have H' := Aside0.mk H
       clear H
       have hnb23 := NB214_215.out
       have hnc23 := NB215_214.out
       have hcz24_0 : w6.cell? ⟨gb214, 0, none⟩ = some (.int .i64 a0_0) := (qAb BK214.out 0).trans rfl
       have hcz24_1 : w6.cell? ⟨gb214, 1, none⟩ = some (.bool a0_1) := (qAb BK214.out 1).trans rfl
       have hcz24_2 : w6.cell? ⟨gb214, 2, none⟩ = some (.int .i64 a0_2) := (qAb BK214.out 2).trans rfl
       have hcz24_3 : w6.cell? ⟨gb214, 3, none⟩ = some (.string a0_3) := (qAb BK214.out 3).trans rfl
       have hcz24_4 : w6.cell? ⟨gb214, 4, none⟩ = some (.slice A0_4 l0_4.length c0_4) := (qAb BK214.out 4).trans rfl
       have hcz24_5 : w6.cell? ⟨gb214, 5, none⟩ = some (.slice A0_5 l0_5.length c0_5) := (qAb BK214.out 5).trans rfl
       have hfz24_0 := qAa BK214.out 0
       have hfz24_1 := qAa BK214.out 1
       have hfz24_2 := qAa BK214.out 2
       have hfz24_3 := qAa BK214.out 3
       have hfz24_4 := qAa BK214.out 4
       have hfz24_5 := qAa BK214.out 5
       have hcz25_0 : w6.cell? ⟨gb215, 0, none⟩ = some (.int .i64 a1_0) := (qAb BK215.out 0).trans rfl
       have hcz25_1 : w6.cell? ⟨gb215, 1, none⟩ = some (.bool a1_1) := (qAb BK215.out 1).trans rfl
       have hcz25_2 : w6.cell? ⟨gb215, 2, none⟩ = some (.int .i64 a1_2) := (qAb BK215.out 2).trans rfl
       have hcz25_3 : w6.cell? ⟨gb215, 3, none⟩ = some (.string a1_3) := (qAb BK215.out 3).trans rfl
       have hcz25_4 : w6.cell? ⟨gb215, 4, none⟩ = some (.slice A1_4 l1_4.length c1_4) := (qAb BK215.out 4).trans rfl
       have hcz25_5 : w6.cell? ⟨gb215, 5, none⟩ = some (.slice A1_5 l1_5.length c1_5) := (qAb BK215.out 5).trans rfl
       have hfz25_0 := qAa BK215.out 0
       have hfz25_1 := qAa BK215.out 1
       have hfz25_2 := qAa BK215.out 2
       have hfz25_3 := qAa BK215.out 3
       have hfz25_4 := qAa BK215.out 4
       have hfz25_5 := qAa BK215.out 5
       go_wp2_with (first | (go_at_call 55; (with_reducible refine (hogsheadlaw0_SameTexts.calls k _ _ l0_5 _ _ l1_5 false _ ?side1 ?side2 ?side3 ?side4 A14.out).mono ?_); (case side1 => repeat (first | exact (Kd.C_below HR0_5.out HB.out) | (with_reducible refine Kd.C_alloc ?_ _) | (with_reducible refine Kd.C_drewN ?_ _) | (with_reducible refine Kd.C_drew ?_))); (case side2 => exact HC0_5.out); (case side3 => repeat (first | exact (Kd.C_below HR1_5.out HB.out) | (with_reducible refine Kd.C_alloc ?_ _) | (with_reducible refine Kd.C_drewN ?_ _) | (with_reducible refine Kd.C_drew ?_))); (case side4 => exact HC1_5.out); rintro e w' ⟨rfl, ⟨nd, rfl⟩⟩))
       go_meet
       case rel => exact ⟨_, (true), (by first | rfl | (simp; done) | (simp [*]; done) | exact congrArg Value.bool (nil_ne _) | exact congrArg Value.bool (nil_eq _) | exact congrArg Value.bool (nil_ne' _)), H', ⟨by first | omega | exact Nat.le_refl _⟩, ⟨by (with_reducible repeat (first | refine qAg ?_ _ | refine qAi ?_ | refine blk_alloc ?_ _)); exact BK214.out⟩, ⟨by (with_reducible repeat (first | refine qAg ?_ _ | refine qAi ?_ | refine blk_alloc ?_ _)); exact BK215.out⟩, ⟨by repeat (first | (with_reducible first | exact HB.out | apply qAd | apply qAc | apply qAe | refine qAf ?_ GE214.out | refine qAf ?_ GE215.out) | exact HB.out)⟩⟩
     ·rw [if_neg c13] at H
      have c13b0 : (a0_3.toList == a1_3.toList) = false := beq_eq_false_iff_ne.mpr c13
      have c13b1 : (a0_3.toList != a1_3.toList) = true := bne_iff_ne.mpr c13
      have H' := Aside0.mk H
      clear H
      have hnb26 := NB214_215.out
      have hnc26 := NB215_214.out
      have hcz27_0 : w6.cell? ⟨gb214, 0, none⟩ = some (.int .i64 a0_0) := (qAb BK214.out 0).trans rfl
      have hcz27_1 : w6.cell? ⟨gb214, 1, none⟩ = some (.bool a0_1) := (qAb BK214.out 1).trans rfl
      have hcz27_2 : w6.cell? ⟨gb214, 2, none⟩ = some (.int .i64 a0_2) := (qAb BK214.out 2).trans rfl
      have hcz27_3 : w6.cell? ⟨gb214, 3, none⟩ = some (.string a0_3) := (qAb BK214.out 3).trans rfl
      have hcz27_4 : w6.cell? ⟨gb214, 4, none⟩ = some (.slice A0_4 l0_4.length c0_4) := (qAb BK214.out 4).trans rfl
      have hcz27_5 : w6.cell? ⟨gb214, 5, none⟩ = some (.slice A0_5 l0_5.length c0_5) := (qAb BK214.out 5).trans rfl
      have hfz27_0 := qAa BK214.out 0
      have hfz27_1 := qAa BK214.out 1
      have hfz27_2 := qAa BK214.out 2
      have hfz27_3 := qAa BK214.out 3
      have hfz27_4 := qAa BK214.out 4
      have hfz27_5 := qAa BK214.out 5
      have hcz28_0 : w6.cell? ⟨gb215, 0, none⟩ = some (.int .i64 a1_0) := (qAb BK215.out 0).trans rfl
      have hcz28_1 : w6.cell? ⟨gb215, 1, none⟩ = some (.bool a1_1) := (qAb BK215.out 1).trans rfl
      have hcz28_2 : w6.cell? ⟨gb215, 2, none⟩ = some (.int .i64 a1_2) := (qAb BK215.out 2).trans rfl
      have hcz28_3 : w6.cell? ⟨gb215, 3, none⟩ = some (.string a1_3) := (qAb BK215.out 3).trans rfl
      have hcz28_4 : w6.cell? ⟨gb215, 4, none⟩ = some (.slice A1_4 l1_4.length c1_4) := (qAb BK215.out 4).trans rfl
      have hcz28_5 : w6.cell? ⟨gb215, 5, none⟩ = some (.slice A1_5 l1_5.length c1_5) := (qAb BK215.out 5).trans rfl
      have hfz28_0 := qAa BK215.out 0
      have hfz28_1 := qAa BK215.out 1
      have hfz28_2 := qAa BK215.out 2
      have hfz28_3 := qAa BK215.out 3
      have hfz28_4 := qAa BK215.out 4
      have hfz28_5 := qAa BK215.out 5
      go_wp2
      go_meet
      case rel => exact ⟨_, (true), (by first | rfl | (simp; done) | (simp [*]; done) | exact congrArg Value.bool (nil_ne _) | exact congrArg Value.bool (nil_eq _) | exact congrArg Value.bool (nil_ne' _)), H', ⟨by first | omega | exact Nat.le_refl _⟩, ⟨by (with_reducible repeat (first | refine qAg ?_ _ | refine qAi ?_ | refine blk_alloc ?_ _)); exact BK214.out⟩, ⟨by (with_reducible repeat (first | refine qAg ?_ _ | refine qAi ?_ | refine blk_alloc ?_ _)); exact BK215.out⟩, ⟨by repeat (first | (with_reducible first | exact HB.out | apply qAd | apply qAc | apply qAe | refine qAf ?_ GE214.out | refine qAf ?_ GE215.out) | exact HB.out)⟩⟩
    ·rw [if_neg c12] at H
     have c12b0 : (a0_2 == a1_2) = false := beq_eq_false_iff_ne.mpr c12
     have c12b1 : (a0_2 != a1_2) = true := bne_iff_ne.mpr c12
     have H' := Aside0.mk H
     clear H
     have hnb29 := NB214_215.out
     have hnc29 := NB215_214.out
     have hcz30_0 : w6.cell? ⟨gb214, 0, none⟩ = some (.int .i64 a0_0) := (qAb BK214.out 0).trans rfl
     have hcz30_1 : w6.cell? ⟨gb214, 1, none⟩ = some (.bool a0_1) := (qAb BK214.out 1).trans rfl
     have hcz30_2 : w6.cell? ⟨gb214, 2, none⟩ = some (.int .i64 a0_2) := (qAb BK214.out 2).trans rfl
     have hcz30_3 : w6.cell? ⟨gb214, 3, none⟩ = some (.string a0_3) := (qAb BK214.out 3).trans rfl
     have hcz30_4 : w6.cell? ⟨gb214, 4, none⟩ = some (.slice A0_4 l0_4.length c0_4) := (qAb BK214.out 4).trans rfl
     have hcz30_5 : w6.cell? ⟨gb214, 5, none⟩ = some (.slice A0_5 l0_5.length c0_5) := (qAb BK214.out 5).trans rfl
     have hfz30_0 := qAa BK214.out 0
     have hfz30_1 := qAa BK214.out 1
     have hfz30_2 := qAa BK214.out 2
     have hfz30_3 := qAa BK214.out 3
     have hfz30_4 := qAa BK214.out 4
     have hfz30_5 := qAa BK214.out 5
     have hcz31_0 : w6.cell? ⟨gb215, 0, none⟩ = some (.int .i64 a1_0) := (qAb BK215.out 0).trans rfl
     have hcz31_1 : w6.cell? ⟨gb215, 1, none⟩ = some (.bool a1_1) := (qAb BK215.out 1).trans rfl
     have hcz31_2 : w6.cell? ⟨gb215, 2, none⟩ = some (.int .i64 a1_2) := (qAb BK215.out 2).trans rfl
     have hcz31_3 : w6.cell? ⟨gb215, 3, none⟩ = some (.string a1_3) := (qAb BK215.out 3).trans rfl
     have hcz31_4 : w6.cell? ⟨gb215, 4, none⟩ = some (.slice A1_4 l1_4.length c1_4) := (qAb BK215.out 4).trans rfl
     have hcz31_5 : w6.cell? ⟨gb215, 5, none⟩ = some (.slice A1_5 l1_5.length c1_5) := (qAb BK215.out 5).trans rfl
     have hfz31_0 := qAa BK215.out 0
     have hfz31_1 := qAa BK215.out 1
     have hfz31_2 := qAa BK215.out 2
     have hfz31_3 := qAa BK215.out 3
     have hfz31_4 := qAa BK215.out 4
     have hfz31_5 := qAa BK215.out 5
     go_wp2
     go_meet
     case rel => exact ⟨_, (true), (by first | rfl | (simp; done) | (simp [*]; done) | exact congrArg Value.bool (nil_ne _) | exact congrArg Value.bool (nil_eq _) | exact congrArg Value.bool (nil_ne' _)), H', ⟨by first | omega | exact Nat.le_refl _⟩, ⟨by (with_reducible repeat (first | refine qAg ?_ _ | refine qAi ?_ | refine blk_alloc ?_ _)); exact BK214.out⟩, ⟨by (with_reducible repeat (first | refine qAg ?_ _ | refine qAi ?_ | refine blk_alloc ?_ _)); exact BK215.out⟩, ⟨by repeat (first | (with_reducible first | exact HB.out | apply qAd | apply qAc | apply qAe | refine qAf ?_ GE214.out | refine qAf ?_ GE215.out) | exact HB.out)⟩⟩
  ·rw [if_neg c7] at H
   have c7b0 : (a0_0 == a1_0) = false := beq_eq_false_iff_ne.mpr c7
   have c7b1 : (a0_0 != a1_0) = true := bne_iff_ne.mpr c7
   (first | rw [c7b0] | (simp only [i64_w, i32_w]; rw [c7b0]) | skip)
   have H' := Aside0.mk H
   clear H
   have hnb32 := NB214_215.out
   have hnc32 := NB215_214.out
   have hcz33_0 : w6.cell? ⟨gb214, 0, none⟩ = some (.int .i64 a0_0) := (qAb BK214.out 0).trans rfl
   have hcz33_1 : w6.cell? ⟨gb214, 1, none⟩ = some (.bool a0_1) := (qAb BK214.out 1).trans rfl
   have hcz33_2 : w6.cell? ⟨gb214, 2, none⟩ = some (.int .i64 a0_2) := (qAb BK214.out 2).trans rfl
   have hcz33_3 : w6.cell? ⟨gb214, 3, none⟩ = some (.string a0_3) := (qAb BK214.out 3).trans rfl
   have hcz33_4 : w6.cell? ⟨gb214, 4, none⟩ = some (.slice A0_4 l0_4.length c0_4) := (qAb BK214.out 4).trans rfl
   have hcz33_5 : w6.cell? ⟨gb214, 5, none⟩ = some (.slice A0_5 l0_5.length c0_5) := (qAb BK214.out 5).trans rfl
   have hfz33_0 := qAa BK214.out 0
   have hfz33_1 := qAa BK214.out 1
   have hfz33_2 := qAa BK214.out 2
   have hfz33_3 := qAa BK214.out 3
   have hfz33_4 := qAa BK214.out 4
   have hfz33_5 := qAa BK214.out 5
   have hcz34_0 : w6.cell? ⟨gb215, 0, none⟩ = some (.int .i64 a1_0) := (qAb BK215.out 0).trans rfl
   have hcz34_1 : w6.cell? ⟨gb215, 1, none⟩ = some (.bool a1_1) := (qAb BK215.out 1).trans rfl
   have hcz34_2 : w6.cell? ⟨gb215, 2, none⟩ = some (.int .i64 a1_2) := (qAb BK215.out 2).trans rfl
   have hcz34_3 : w6.cell? ⟨gb215, 3, none⟩ = some (.string a1_3) := (qAb BK215.out 3).trans rfl
   have hcz34_4 : w6.cell? ⟨gb215, 4, none⟩ = some (.slice A1_4 l1_4.length c1_4) := (qAb BK215.out 4).trans rfl
   have hcz34_5 : w6.cell? ⟨gb215, 5, none⟩ = some (.slice A1_5 l1_5.length c1_5) := (qAb BK215.out 5).trans rfl
   have hfz34_0 := qAa BK215.out 0
   have hfz34_1 := qAa BK215.out 1
   have hfz34_2 := qAa BK215.out 2
   have hfz34_3 := qAa BK215.out 3
   have hfz34_4 := qAa BK215.out 4
   have hfz34_5 := qAa BK215.out 5
   go_wp2
   go_meet
   case rel => exact ⟨_, (true), (by first | rfl | (simp; done) | (simp [*]; done) | exact congrArg Value.bool (nil_ne _) | exact congrArg Value.bool (nil_eq _) | exact congrArg Value.bool (nil_ne' _)), H', ⟨by first | omega | exact Nat.le_refl _⟩, ⟨by (with_reducible repeat (first | refine qAg ?_ _ | refine qAi ?_ | refine blk_alloc ?_ _)); exact BK214.out⟩, ⟨by (with_reducible repeat (first | refine qAg ?_ _ | refine qAi ?_ | refine blk_alloc ?_ _)); exact BK215.out⟩, ⟨by repeat (first | (with_reducible first | exact HB.out | apply qAd | apply qAc | apply qAe | refine qAf ?_ GE214.out | refine qAf ?_ GE215.out) | exact HB.out)⟩⟩
 case rest =>
  clear HC4
  try clear c1
  try clear c2
  try clear p2
  try clear c3
  try clear c7
  try clear c7b0
  try clear c7b1
  try clear c8
  try clear c8b0
  try clear c8b1
  try clear c8b2
  try clear c9
  try clear c12
  try clear c12b0
  try clear c12b1
  try clear c13
  try clear c13b0
  try clear c13b1
  try clear c15
  try clear c16
  try clear c16b0
  try clear c16b1
  try clear c16b2
  try clear c17
  try clear c20
  try clear c23
  try clear c25
  try clear c26
  try clear c29
  try clear c32
  try clear hcz10_0
  try clear hcz10_1
  try clear hcz10_2
  try clear hcz10_3
  try clear hcz10_4
  try clear hcz10_5
  try clear hcz11_0
  try clear hcz11_1
  try clear hcz11_2
  try clear hcz11_3
  try clear hcz11_4
  try clear hcz11_5
  try clear hcz18_0
  try clear hcz18_1
  try clear hcz18_2
  try clear hcz18_3
  try clear hcz18_4
  try clear hcz18_5
  try clear hcz19_0
  try clear hcz19_1
  try clear hcz19_2
  try clear hcz19_3
  try clear hcz19_4
  try clear hcz19_5
  try clear hcz21_0
  try clear hcz21_1
  try clear hcz21_2
  try clear hcz21_3
  try clear hcz21_4
  try clear hcz21_5
  try clear hcz22_0
  try clear hcz22_1
  try clear hcz22_2
  try clear hcz22_3
  try clear hcz22_4
  try clear hcz22_5
  try clear hcz24_0
  try clear hcz24_1
  try clear hcz24_2
  try clear hcz24_3
  try clear hcz24_4
  try clear hcz24_5
  try clear hcz25_0
  try clear hcz25_1
  try clear hcz25_2
  try clear hcz25_3
  try clear hcz25_4
  try clear hcz25_5
  try clear hcz27_0
  try clear hcz27_1
  try clear hcz27_2
  try clear hcz27_3
  try clear hcz27_4
  try clear hcz27_5
  try clear hcz28_0
  try clear hcz28_1
  try clear hcz28_2
  try clear hcz28_3
  try clear hcz28_4
  try clear hcz28_5
  try clear hcz30_0
  try clear hcz30_1
  try clear hcz30_2
  try clear hcz30_3
  try clear hcz30_4
  try clear hcz30_5
  try clear hcz31_0
  try clear hcz31_1
  try clear hcz31_2
  try clear hcz31_3
  try clear hcz31_4
  try clear hcz31_5
  try clear hcz33_0
  try clear hcz33_1
  try clear hcz33_2
  try clear hcz33_3
  try clear hcz33_4
  try clear hcz33_5
  try clear hcz34_0
  try clear hcz34_1
  try clear hcz34_2
  try clear hcz34_3
  try clear hcz34_4
  try clear hcz34_5
  try clear hfz10_0
  try clear hfz10_1
  try clear hfz10_2
  try clear hfz10_3
  try clear hfz10_4
  try clear hfz10_5
  try clear hfz11_0
  try clear hfz11_1
  try clear hfz11_2
  try clear hfz11_3
  try clear hfz11_4
  try clear hfz11_5
  try clear hfz18_0
  try clear hfz18_1
  try clear hfz18_2
  try clear hfz18_3
  try clear hfz18_4
  try clear hfz18_5
  try clear hfz19_0
  try clear hfz19_1
  try clear hfz19_2
  try clear hfz19_3
  try clear hfz19_4
  try clear hfz19_5
  try clear hfz21_0
  try clear hfz21_1
  try clear hfz21_2
  try clear hfz21_3
  try clear hfz21_4
  try clear hfz21_5
  try clear hfz22_0
  try clear hfz22_1
  try clear hfz22_2
  try clear hfz22_3
  try clear hfz22_4
  try clear hfz22_5
  try clear hfz24_0
  try clear hfz24_1
  try clear hfz24_2
  try clear hfz24_3
  try clear hfz24_4
  try clear hfz24_5
  try clear hfz25_0
  try clear hfz25_1
  try clear hfz25_2
  try clear hfz25_3
  try clear hfz25_4
  try clear hfz25_5
  try clear hfz27_0
  try clear hfz27_1
  try clear hfz27_2
  try clear hfz27_3
  try clear hfz27_4
  try clear hfz27_5
  try clear hfz28_0
  try clear hfz28_1
  try clear hfz28_2
  try clear hfz28_3
  try clear hfz28_4
  try clear hfz28_5
  try clear hfz30_0
  try clear hfz30_1
  try clear hfz30_2
  try clear hfz30_3
  try clear hfz30_4
  try clear hfz30_5
  try clear hfz31_0
  try clear hfz31_1
  try clear hfz31_2
  try clear hfz31_3
  try clear hfz31_4
  try clear hfz31_5
  try clear hfz33_0
  try clear hfz33_1
  try clear hfz33_2
  try clear hfz33_3
  try clear hfz33_4
  try clear hfz33_5
  try clear hfz34_0
  try clear hfz34_1
  try clear hfz34_2
  try clear hfz34_3
  try clear hfz34_4
  try clear hfz34_5
  obtain ⟨kq, x54_3, rfl, HA, HJ3, BK214, BK215, HB⟩ := hcut
  cases kq with
  | zero => exact absurd HA.out (by simp [hogsheadlaw0_SameValue.j0])
  | succ kj3 =>
   have H := HA.out
   clear HA
   simp only [hogsheadlaw0_SameValue.j0] at H
   by_cases c35 : x54_3 = true
   ·subst c35
    have H1 : (some false) = some r := by rw [if_pos rfl] at H; exact H
    clear H
    have H := H1
    clear H1
    obtain rfl := Option.some.inj H
    go_wp2
    go_ret
    exact ⟨by first | rfl | (simp [qAl, qAk] <;> rfl) | (simp [*, qAl, qAk] <;> rfl), by repeat (first | (with_reducible first | exact HB.out | apply qAd | apply qAc | apply qAe | refine qAf ?_ GE214.out | refine qAf ?_ GE215.out) | exact HB.out)⟩
   ·replace c35 := Bool.eq_false_iff.mpr c35
    subst c35
    have H1 : (hogsheadlaw0_SameValue.l0 kj3 a2 0 a0_0 a0_1 a0_2 a0_3 l0_4 l0_5 a1_0 a1_1 a1_2 a1_3 l1_4 l1_5) = some r := by rw [if_neg (show ¬ (false = true) by decide)] at H; exact H
    clear H
    have H := H1
    clear H1
    have H' := Aside0.mk H
    clear H
    go_wp2
    go_loopg [7] kj3 (fun kq v7 w' => ∃ (x7_2 : Int), v7 = .int .i64 x7_2 ∧ Aside0 (hogsheadlaw0_SameValue.l0 kq a2 x7_2 a0_0 a0_1 a0_2 a0_3 l0_4 l0_5 a1_0 a1_1 a1_2 a1_3 l1_4 l1_5 = some r) ∧ Aside0 (kq ≤ kj3) ∧ Aside0 (w'.heap[gb214]? = some (.cells #[.int .i64 a0_0, .bool a0_1, .int .i64 a0_2, .string a0_3, (.slice A0_4 l0_4.length c0_4), (.slice A0_5 l0_5.length c0_5)] 25 (0, 0))) ∧ Aside0 (w'.heap[gb215]? = some (.cells #[.int .i64 a1_0, .bool a1_1, .int .i64 a1_2, .string a1_3, (.slice A1_4 l1_4.length c1_4), (.slice A1_5 l1_5.length c1_5)] 25 (0, 0))) ∧ Aside0 (Below w.heap.size w w'))
    case atStart => exact ⟨(0), (by first | rfl | (simp; done) | (simp [*]; done) | exact congrArg Value.bool (nil_ne _) | exact congrArg Value.bool (nil_eq _) | exact congrArg Value.bool (nil_ne' _)), H', ⟨Nat.le_refl _⟩, ⟨by (with_reducible repeat (first | refine qAg ?_ _ | refine qAi ?_ | refine blk_alloc ?_ _)); exact BK214.out⟩, ⟨by (with_reducible repeat (first | refine qAg ?_ _ | refine qAi ?_ | refine blk_alloc ?_ _)); exact BK215.out⟩, ⟨by repeat (first | (with_reducible first | exact HB.out | apply qAd | apply qAc | apply qAe | refine qAf ?_ GE214.out | refine qAf ?_ GE215.out) | exact HB.out)⟩⟩
    case round =>
     clear H'
     try clear c1
     try clear c2
     try clear p2
     try clear c3
     try clear c7
     try clear c7b0
     try clear c7b1
     try clear c8
     try clear c8b0
     try clear c8b1
     try clear c8b2
     try clear c9
     try clear c12
     try clear c12b0
     try clear c12b1
     try clear c13
     try clear c13b0
     try clear c13b1
     try clear c15
     try clear c16
     try clear c16b0
     try clear c16b1
     try clear c16b2
     try clear c17
     try clear c20
     try clear c23
     try clear c25
     try clear c26
     try clear c29
     try clear c32
     try clear c35
     try clear hcz10_0
     try clear hcz10_1
     try clear hcz10_2
     try clear hcz10_3
     try clear hcz10_4
     try clear hcz10_5
     try clear hcz11_0
     try clear hcz11_1
     try clear hcz11_2
     try clear hcz11_3
     try clear hcz11_4
     try clear hcz11_5
     try clear hcz18_0
     try clear hcz18_1
     try clear hcz18_2
     try clear hcz18_3
     try clear hcz18_4
     try clear hcz18_5
     try clear hcz19_0
     try clear hcz19_1
     try clear hcz19_2
     try clear hcz19_3
     try clear hcz19_4
     try clear hcz19_5
     try clear hcz21_0
     try clear hcz21_1
     try clear hcz21_2
     try clear hcz21_3
     try clear hcz21_4
     try clear hcz21_5
     try clear hcz22_0
     try clear hcz22_1
     try clear hcz22_2
     try clear hcz22_3
     try clear hcz22_4
     try clear hcz22_5
     try clear hcz24_0
     try clear hcz24_1
     try clear hcz24_2
     try clear hcz24_3
     try clear hcz24_4
     try clear hcz24_5
     try clear hcz25_0
     try clear hcz25_1
     try clear hcz25_2
     try clear hcz25_3
     try clear hcz25_4
     try clear hcz25_5
     try clear hcz27_0
     try clear hcz27_1
     try clear hcz27_2
     try clear hcz27_3
     try clear hcz27_4
     try clear hcz27_5
     try clear hcz28_0
     try clear hcz28_1
     try clear hcz28_2
     try clear hcz28_3
     try clear hcz28_4
     try clear hcz28_5
     try clear hcz30_0
     try clear hcz30_1
     try clear hcz30_2
     try clear hcz30_3
     try clear hcz30_4
     try clear hcz30_5
     try clear hcz31_0
     try clear hcz31_1
     try clear hcz31_2
     try clear hcz31_3
     try clear hcz31_4
     try clear hcz31_5
     try clear hcz33_0
     try clear hcz33_1
     try clear hcz33_2
     try clear hcz33_3
     try clear hcz33_4
     try clear hcz33_5
     try clear hcz34_0
     try clear hcz34_1
     try clear hcz34_2
     try clear hcz34_3
     try clear hcz34_4
     try clear hcz34_5
     try clear hfz10_0
     try clear hfz10_1
     try clear hfz10_2
     try clear hfz10_3
     try clear hfz10_4
     try clear hfz10_5
     try clear hfz11_0
     try clear hfz11_1
     try clear hfz11_2
     try clear hfz11_3
     try clear hfz11_4
     try clear hfz11_5
     try clear hfz18_0
     try clear hfz18_1
     try clear hfz18_2
     try clear hfz18_3
     try clear hfz18_4
     try clear hfz18_5
     try clear hfz19_0
     try clear hfz19_1
     try clear hfz19_2
     try clear hfz19_3
     try clear hfz19_4
     try clear hfz19_5
     try clear hfz21_0
     try clear hfz21_1
     try clear hfz21_2
     try clear hfz21_3
     try clear hfz21_4
     try clear hfz21_5
     try clear hfz22_0
     try clear hfz22_1
     try clear hfz22_2
     try clear hfz22_3
     try clear hfz22_4
     try clear hfz22_5
     try clear hfz24_0
     try clear hfz24_1
     try clear hfz24_2
     try clear hfz24_3
     try clear hfz24_4
     try clear hfz24_5
     try clear hfz25_0
     try clear hfz25_1
     try clear hfz25_2
     try clear hfz25_3
     try clear hfz25_4
     try clear hfz25_5
     try clear hfz27_0
     try clear hfz27_1
     try clear hfz27_2
     try clear hfz27_3
     try clear hfz27_4
     try clear hfz27_5
     try clear hfz28_0
     try clear hfz28_1
     try clear hfz28_2
     try clear hfz28_3
     try clear hfz28_4
     try clear hfz28_5
     try clear hfz30_0
     try clear hfz30_1
     try clear hfz30_2
     try clear hfz30_3
     try clear hfz30_4
     try clear hfz30_5
     try clear hfz31_0
     try clear hfz31_1
     try clear hfz31_2
     try clear hfz31_3
     try clear hfz31_4
     try clear hfz31_5
     try clear hfz33_0
     try clear hfz33_1
     try clear hfz33_2
     try clear hfz33_3
     try clear hfz33_4
     try clear hfz33_5
     try clear hfz34_0
     try clear hfz34_1
     try clear hfz34_2
     try clear hfz34_3
     try clear hfz34_4
     try clear hfz34_5
     try clear p2
     obtain ⟨x7_2, rfl, HA, HK2, BK214, BK215, HB⟩ := hrel
     cases gk with
     | zero => exact absurd HA.out (by simp [hogsheadlaw0_SameValue.l0])
     | succ k2 =>
      have H := HA.out
      clear HA
      simp only [hogsheadlaw0_SameValue.l0] at H
      by_cases c36 : x7_2 < (l0_4.length : Int)
      ·rw [if_pos c36] at H
       have c36b0 : decide (x7_2 < (l0_4.length : Int)) = true := decide_eq_true c36
       clear c36
       by_cases c37 : 0 ≤ x7_2
       ·rw [if_pos c37] at H
        have c37b0 : decide (0 ≤ x7_2) = true := decide_eq_true c37
        clear c37
        by_cases c38 : x7_2 < (l1_4.length : Int)
        ·rw [if_pos c38] at H
         have c38b0 : decide (x7_2 < (l1_4.length : Int)) = true := decide_eq_true c38
         clear c38
         replace H := Option.bind_eq_some_iff.mp H
         obtain ⟨t219, A390, H⟩ := H
         replace H : (if t219 = true then (hogsheadlaw0_SameValue.l0 k2 a2 (wrap64 (x7_2 + 1)) a0_0 a0_1 a0_2 a0_3 l0_4 l0_5 a1_0 a1_1 a1_2 a1_3 l1_4 l1_5) else (some false)) = some r := H
         have A39 := Aside0.mk A390
         clear A390
         by_cases c40 : t219 = true
         ·subst c40
          have H1 : (hogsheadlaw0_SameValue.l0 k2 a2 (wrap64 (x7_2 + 1)) a0_0 a0_1 a0_2 a0_3 l0_4 l0_5 a1_0 a1_1 a1_2 a1_3 l1_4 l1_5) = some r := by rw [if_pos rfl] at H; exact H
          clear H
          have H := H1
          clear H1
          have H' := Aside0.mk H
          clear H
          have hnb41 := NB214_215.out
          have hnc41 := NB215_214.out
          have hcz42_0 : wr.cell? ⟨gb214, 0, none⟩ = some (.int .i64 a0_0) := (qAb BK214.out 0).trans rfl
          have hcz42_1 : wr.cell? ⟨gb214, 1, none⟩ = some (.bool a0_1) := (qAb BK214.out 1).trans rfl
          have hcz42_2 : wr.cell? ⟨gb214, 2, none⟩ = some (.int .i64 a0_2) := (qAb BK214.out 2).trans rfl
          have hcz42_3 : wr.cell? ⟨gb214, 3, none⟩ = some (.string a0_3) := (qAb BK214.out 3).trans rfl
          have hcz42_4 : wr.cell? ⟨gb214, 4, none⟩ = some (.slice A0_4 l0_4.length c0_4) := (qAb BK214.out 4).trans rfl
          have hcz42_5 : wr.cell? ⟨gb214, 5, none⟩ = some (.slice A0_5 l0_5.length c0_5) := (qAb BK214.out 5).trans rfl
          have hfz42_0 := qAa BK214.out 0
          have hfz42_1 := qAa BK214.out 1
          have hfz42_2 := qAa BK214.out 2
          have hfz42_3 := qAa BK214.out 3
          have hfz42_4 := qAa BK214.out 4
          have hfz42_5 := qAa BK214.out 5
          try go_wp2
          have n0_ := Aside0.mk (qAi BK214.out)
          have n1_ := Aside0.mk (qAi BK215.out)
          have n2_ := Aside0.mk (qAe HB.out)
          clear BK214
          clear BK215
          clear HB
          have BK214 := n0_
          have BK215 := n1_
          have HB := n2_
          clear n0_ n1_ n2_
          have p217 : 0 ≤ (x7_2 : Int) := of_decide_eq_true (by first | (with_reducible assumption) | assumption)
          have q217 : x7_2 < (l0_4.length : Int) := of_decide_eq_true (by first | (with_reducible assumption) | assumption)
          obtain ⟨ad217, A217_4, c217_4, A217_5, c217_5, e217, hx217_0, hx217_1, hx217_2, hx217_3, hx217_4, hx217_5, hl217_4, hi217_4, hl217_5, hi217_5⟩ := at_T25 HR0_4.out x7_2 p217 q217
          have hw217_5 := hx217_5
          have hw217_4 := hx217_4
          have hw217_3 := hx217_3
          have hw217_2 := hx217_2
          have hw217_1 := hx217_1
          have hw217_0 := hx217_0
          cases e217
          replace hx217_0 := (HB.out.cell (World.block_lt_of_cell? w _ hx217_0)).trans hx217_0
          replace hx217_1 := (HB.out.cell (World.block_lt_of_cell? w _ hx217_1)).trans hx217_1
          replace hx217_2 := (HB.out.cell (World.block_lt_of_cell? w _ hx217_2)).trans hx217_2
          replace hx217_3 := (HB.out.cell (World.block_lt_of_cell? w _ hx217_3)).trans hx217_3
          replace hx217_4 := (HB.out.cell (World.block_lt_of_cell? w _ hx217_4)).trans hx217_4
          replace hx217_5 := (HB.out.cell (World.block_lt_of_cell? w _ hx217_5)).trans hx217_5
          have HR217_4 := Aside0.mk hi217_4
          have HC217_4 := Aside0.mk hl217_4
          clear hi217_4 hl217_4
          have HR217_5 := Aside0.mk hi217_5
          have HC217_5 := Aside0.mk hl217_5
          clear hi217_5 hl217_5
          replace p217 := eq_true p217
          replace q217 := eq_true q217
          have p218 : 0 ≤ (x7_2 : Int) := of_decide_eq_true (by first | (with_reducible assumption) | assumption)
          have q218 : x7_2 < (l1_4.length : Int) := of_decide_eq_true (by first | (with_reducible assumption) | assumption)
          obtain ⟨ad218, A218_4, c218_4, A218_5, c218_5, e218, hx218_0, hx218_1, hx218_2, hx218_3, hx218_4, hx218_5, hl218_4, hi218_4, hl218_5, hi218_5⟩ := at_T25 HR1_4.out x7_2 p218 q218
          have hw218_5 := hx218_5
          have hw218_4 := hx218_4
          have hw218_3 := hx218_3
          have hw218_2 := hx218_2
          have hw218_1 := hx218_1
          have hw218_0 := hx218_0
          cases e218
          replace hx218_0 := (HB.out.cell (World.block_lt_of_cell? w _ hx218_0)).trans hx218_0
          replace hx218_1 := (HB.out.cell (World.block_lt_of_cell? w _ hx218_1)).trans hx218_1
          replace hx218_2 := (HB.out.cell (World.block_lt_of_cell? w _ hx218_2)).trans hx218_2
          replace hx218_3 := (HB.out.cell (World.block_lt_of_cell? w _ hx218_3)).trans hx218_3
          replace hx218_4 := (HB.out.cell (World.block_lt_of_cell? w _ hx218_4)).trans hx218_4
          replace hx218_5 := (HB.out.cell (World.block_lt_of_cell? w _ hx218_5)).trans hx218_5
          have HR218_4 := Aside0.mk hi218_4
          have HC218_4 := Aside0.mk hl218_4
          clear hi218_4 hl218_4
          have HR218_5 := Aside0.mk hi218_5
          have HC218_5 := Aside0.mk hl218_5
          clear hi218_5 hl218_5
          replace p218 := eq_true p218
          replace q218 := eq_true q218
          refine start_ (n := 14) (S := fun w' => w'.cell? ⟨gb214, 0, none⟩ = some (.int .i64 a0_0) ∧ w'.cell? ⟨gb214, 1, none⟩ = some (.bool a0_1) ∧ w'.cell? ⟨gb214, 2, none⟩ = some (.int .i64 a0_2) ∧ w'.cell? ⟨gb214, 3, none⟩ = some (.string a0_3) ∧ w'.cell? ⟨gb214, 4, none⟩ = some (.slice (some ad217) l0_4.length c0_4) ∧ w'.cell? ⟨gb214, 5, none⟩ = some (.slice A0_5 l0_5.length c0_5) ∧ w'.cell? ⟨gb215, 0, none⟩ = some (.int .i64 a1_0) ∧ w'.cell? ⟨gb215, 1, none⟩ = some (.bool a1_1) ∧ w'.cell? ⟨gb215, 2, none⟩ = some (.int .i64 a1_2) ∧ w'.cell? ⟨gb215, 3, none⟩ = some (.string a1_3) ∧ w'.cell? ⟨gb215, 4, none⟩ = some (.slice (some ad218) l1_4.length c1_4) ∧ w'.cell? ⟨gb215, 5, none⟩ = some (.slice A1_5 l1_5.length c1_5) ∧ w'.cell? (ad217.add ((x7_2).toNat * 6)) = some (.int .i64 ((rd_T25 l0_4 x7_2).f0)) ∧ w'.cell? ⟨(ad217.add ((x7_2).toNat * 6)).block, (ad217.add ((x7_2).toNat * 6)).off + 1, none⟩ = some (.bool ((rd_T25 l0_4 x7_2).f1)) ∧ w'.cell? ⟨(ad217.add ((x7_2).toNat * 6)).block, (ad217.add ((x7_2).toNat * 6)).off + 2, none⟩ = some (.int .i64 ((rd_T25 l0_4 x7_2).f2)) ∧ w'.cell? ⟨(ad217.add ((x7_2).toNat * 6)).block, (ad217.add ((x7_2).toNat * 6)).off + 3, none⟩ = some (.string ((rd_T25 l0_4 x7_2).f3)) ∧ w'.cell? ⟨(ad217.add ((x7_2).toNat * 6)).block, (ad217.add ((x7_2).toNat * 6)).off + 4, none⟩ = some (.slice A217_4 ((rd_T25 l0_4 x7_2).f4).length c217_4) ∧ w'.cell? ⟨(ad217.add ((x7_2).toNat * 6)).block, (ad217.add ((x7_2).toNat * 6)).off + 5, none⟩ = some (.slice A217_5 ((rd_T25 l0_4 x7_2).f5).length c217_5) ∧ w'.cell? (ad218.add ((x7_2).toNat * 6)) = some (.int .i64 ((rd_T25 l1_4 x7_2).f0)) ∧ w'.cell? ⟨(ad218.add ((x7_2).toNat * 6)).block, (ad218.add ((x7_2).toNat * 6)).off + 1, none⟩ = some (.bool ((rd_T25 l1_4 x7_2).f1)) ∧ w'.cell? ⟨(ad218.add ((x7_2).toNat * 6)).block, (ad218.add ((x7_2).toNat * 6)).off + 2, none⟩ = some (.int .i64 ((rd_T25 l1_4 x7_2).f2)) ∧ w'.cell? ⟨(ad218.add ((x7_2).toNat * 6)).block, (ad218.add ((x7_2).toNat * 6)).off + 3, none⟩ = some (.string ((rd_T25 l1_4 x7_2).f3)) ∧ w'.cell? ⟨(ad218.add ((x7_2).toNat * 6)).block, (ad218.add ((x7_2).toNat * 6)).off + 4, none⟩ = some (.slice A218_4 ((rd_T25 l1_4 x7_2).f4).length c218_4) ∧ w'.cell? ⟨(ad218.add ((x7_2).toNat * 6)).block, (ad218.add ((x7_2).toNat * 6)).off + 5, none⟩ = some (.slice A218_5 ((rd_T25 l1_4 x7_2).f5).length c218_5)) (ds := []) #[false, false, false, false, false, false, false, false, false, false, false, false, false, false] (by kernel_rfl) rfl rfl ⟨(qAb BK214.out 0).trans rfl, (qAb BK214.out 1).trans rfl, (qAb BK214.out 2).trans rfl, (qAb BK214.out 3).trans rfl, (qAb BK214.out 4).trans rfl, (qAb BK214.out 5).trans rfl, (qAb BK215.out 0).trans rfl, (qAb BK215.out 1).trans rfl, (qAb BK215.out 2).trans rfl, (qAb BK215.out 3).trans rfl, (qAb BK215.out 4).trans rfl, (qAb BK215.out 5).trans rfl, ((HB.out.cell (World.block_lt_of_cell? w _ hw217_0)).trans hw217_0), ((HB.out.cell (World.block_lt_of_cell? w _ hw217_1)).trans hw217_1), ((HB.out.cell (World.block_lt_of_cell? w _ hw217_2)).trans hw217_2), ((HB.out.cell (World.block_lt_of_cell? w _ hw217_3)).trans hw217_3), ((HB.out.cell (World.block_lt_of_cell? w _ hw217_4)).trans hw217_4), ((HB.out.cell (World.block_lt_of_cell? w _ hw217_5)).trans hw217_5), ((HB.out.cell (World.block_lt_of_cell? w _ hw218_0)).trans hw218_0), ((HB.out.cell (World.block_lt_of_cell? w _ hw218_1)).trans hw218_1), ((HB.out.cell (World.block_lt_of_cell? w _ hw218_2)).trans hw218_2), ((HB.out.cell (World.block_lt_of_cell? w _ hw218_3)).trans hw218_3), ((HB.out.cell (World.block_lt_of_cell? w _ hw218_4)).trans hw218_4), ((HB.out.cell (World.block_lt_of_cell? w _ hw218_5)).trans hw218_5)⟩ (fun hHeld => ?_); refine qCm hogsheadlaw0_SameValue.tab6 hogsheadlaw0_SameValue.bits6 (fun HT_ HW_ => ?_)
          generalize wr.drew = w43 at BK214 BK215 HB HR217_4 HR217_5 HR218_4 HR218_5 hx217_0 hx217_1 hx217_2 hx217_3 hx217_4 hx217_5 hx218_0 hx218_1 hx218_2 hx218_3 hx218_4 hx218_5 hHeld ⊢
          refine pure_ (i := 0) (N := some 62) (v := ?_) (a' := ?_) #[true, false, false, false, false, false, false, false, false, false, false, false, false, false] rfl rfl (any_of HT_.out (by kernel_rfl)) (fun _ _ _ h => h) (Or.inl ⟨by rfl, ?_⟩) ?_ ?_
          rotate_left
          ·intro w'
           go_simp
           with_reducible rfl
          rotate_left
          ·simp only [Act.put, List.setIfInBounds_toArray, List.set_cons_zero, List.set_cons_succ, i64_w, i32_w]
           rfl
          refine pure_ (i := 2) (N := some 64) (v := ?_) (a' := ?_) #[true, false, true, false, false, false, false, false, false, false, false, false, false, false] rfl rfl (any_of HT_.out (by kernel_rfl)) (fun _ _ _ h => h) (Or.inl ⟨by rfl, ?_⟩) ?_ ?_
          rotate_left
          ·intro w'
           go_simp
           with_reducible rfl
          rotate_left
          ·simp only [Act.put, List.setIfInBounds_toArray, List.set_cons_zero, List.set_cons_succ, i64_w, i32_w]
           rfl
          refine pure_ (i := 5) (N := some 67) (v := ?_) (a' := ?_) #[true, false, true, false, false, true, false, false, false, false, false, false, false, false] rfl rfl (any_of HT_.out (by kernel_rfl)) (fun _ _ _ h => h) (Or.inl ⟨by rfl, ?_⟩) ?_ ?_
          rotate_left
          ·intro w'
           go_simp
           with_reducible rfl
          rotate_left
          ·simp only [Act.put, List.setIfInBounds_toArray, List.set_cons_zero, List.set_cons_succ, i64_w, i32_w]
           rfl
          refine pure_ (i := 7) (N := some 69) (v := ?_) (a' := ?_) #[true, false, true, false, false, true, false, true, false, false, false, false, false, false] rfl rfl (any_of HT_.out (by kernel_rfl)) (fun _ _ _ h => h) (Or.inl ⟨by rfl, ?_⟩) ?_ ?_
          rotate_left
          ·intro w'
           go_simp
           with_reducible rfl
          rotate_left
          ·simp only [Act.put, List.setIfInBounds_toArray, List.set_cons_zero, List.set_cons_succ, i64_w, i32_w]
           rfl
          refine pure_ (i := 10) (N := some 72) (v := ?_) (a' := ?_) #[true, false, true, false, false, true, false, true, false, false, true, false, false, false] rfl rfl (any_of HT_.out (by kernel_rfl)) (fun _ _ _ h => h) (Or.inl ⟨by rfl, ?_⟩) ?_ ?_
          rotate_left
          ·intro w'
           go_simp
           with_reducible rfl
          rotate_left
          ·simp only [Act.put, List.setIfInBounds_toArray, List.set_cons_zero, List.set_cons_succ, i64_w, i32_w]
           rfl
          refine pure_ (i := 11) (N := some 73) (v := ?_) (a' := ?_) #[true, false, true, false, false, true, false, true, false, false, true, true, false, false] rfl rfl (any_of HT_.out (by kernel_rfl)) (fun _ _ _ h => h) (Or.inl ⟨by rfl, ?_⟩) ?_ ?_
          rotate_left
          ·intro w'
           go_simp
           with_reducible rfl
          rotate_left
          ·simp only [Act.put, List.setIfInBounds_toArray, List.set_cons_zero, List.set_cons_succ, i64_w, i32_w]
           rfl
          refine take_ (i := 1) (N := some 63) (v := ?_) (a' := ?_) #[true, true, true, false, false, true, false, true, false, false, true, true, false, false] rfl rfl (qBh HT_.out HW_.out (by kernel_rfl)) (fun _ _ _ h => h) (Or.inl ⟨by rfl, ?_⟩) hHeld ?_ ?_
          rotate_left
          ·rintro w' ⟨s0, s1, s2, s3, s4, s5, s6, s7, s8, s9, s10, s11, s12, s13, s14, s15, s16, s17, s18, s19, s20, s21, s22, s23⟩
           go_simp
           with_reducible rfl
          rotate_left
          ·simp only [Act.put, List.setIfInBounds_toArray, List.set_cons_zero, List.set_cons_succ, i64_w, i32_w]
           rfl
          refine pure_ (i := 3) (N := some 65) (v := ?_) (a' := ?_) #[true, true, true, true, false, true, false, true, false, false, true, true, false, false] rfl rfl (any_of HT_.out (by kernel_rfl)) (fun _ _ _ h => h) (Or.inl ⟨by rfl, ?_⟩) ?_ ?_
          rotate_left
          ·intro w'
           go_simp
           with_reducible rfl
          rotate_left
          ·simp only [Act.put, List.setIfInBounds_toArray, List.set_cons_zero, List.set_cons_succ, i64_w, i32_w]
           rfl
          refine take_ (i := 4) (N := some 66) (v := ?_) (a' := ?_) #[true, true, true, true, true, true, false, true, false, false, true, true, false, false] rfl rfl (qBh HT_.out HW_.out (by kernel_rfl)) (fun _ _ _ h => h) (Or.inl ⟨by rfl, ?_⟩) hHeld ?_ ?_
          rotate_left
          ·rintro w' ⟨s0, s1, s2, s3, s4, s5, s6, s7, s8, s9, s10, s11, s12, s13, s14, s15, s16, s17, s18, s19, s20, s21, s22, s23⟩
           go_simp
           with_reducible rfl
          rotate_left
          ·simp only [Act.put, List.setIfInBounds_toArray, List.set_cons_zero, List.set_cons_succ, i64_w, i32_w]
           rfl
          refine take_ (i := 6) (N := some 68) (v := ?_) (a' := ?_) #[true, true, true, true, true, true, true, true, false, false, true, true, false, false] rfl rfl (qBh HT_.out HW_.out (by kernel_rfl)) (fun _ _ _ h => h) (Or.inl ⟨by rfl, ?_⟩) hHeld ?_ ?_
          rotate_left
          ·rintro w' ⟨s0, s1, s2, s3, s4, s5, s6, s7, s8, s9, s10, s11, s12, s13, s14, s15, s16, s17, s18, s19, s20, s21, s22, s23⟩
           go_simp
           with_reducible rfl
          rotate_left
          ·simp only [Act.put, List.setIfInBounds_toArray, List.set_cons_zero, List.set_cons_succ, i64_w, i32_w]
           rfl
          refine pure_ (i := 8) (N := some 70) (v := ?_) (a' := ?_) #[true, true, true, true, true, true, true, true, true, false, true, true, false, false] rfl rfl (any_of HT_.out (by kernel_rfl)) (fun _ _ _ h => h) (Or.inl ⟨by rfl, ?_⟩) ?_ ?_
          rotate_left
          ·intro w'
           go_simp
           with_reducible rfl
          rotate_left
          ·simp only [Act.put, List.setIfInBounds_toArray, List.set_cons_zero, List.set_cons_succ, i64_w, i32_w]
           rfl
          refine take_ (i := 9) (N := some 71) (v := ?_) (a' := ?_) #[true, true, true, true, true, true, true, true, true, true, true, true, false, false] rfl rfl (qBh HT_.out HW_.out (by kernel_rfl)) (fun _ _ _ h => h) (Or.inl ⟨by rfl, ?_⟩) hHeld ?_ ?_
          rotate_left
          ·rintro w' ⟨s0, s1, s2, s3, s4, s5, s6, s7, s8, s9, s10, s11, s12, s13, s14, s15, s16, s17, s18, s19, s20, s21, s22, s23⟩
           go_simp
           with_reducible rfl
          rotate_left
          ·simp only [Act.put, List.setIfInBounds_toArray, List.set_cons_zero, List.set_cons_succ, i64_w, i32_w]
           rfl
          refine one_ (i := 12) (N := some 74) #[true, true, true, true, true, true, true, true, true, true, true, true, true, false] rfl rfl (one_of HT_.out (by kernel_rfl)) (by decide) (fun K hK => ?_)
          refine goes_ Tryd.func25 (by kernel_rfl) rfl #[.agg #[.int .i64 ((rd_T25 l0_4 x7_2).f0), .bool ((rd_T25 l0_4 x7_2).f1), .int .i64 ((rd_T25 l0_4 x7_2).f2), .string ((rd_T25 l0_4 x7_2).f3), .slice A217_4 ((rd_T25 l0_4 x7_2).f4).length c217_4, .slice A217_5 ((rd_T25 l0_4 x7_2).f5).length c217_5], .agg #[.int .i64 ((rd_T25 l1_4 x7_2).f0), .bool ((rd_T25 l1_4 x7_2).f1), .int .i64 ((rd_T25 l1_4 x7_2).f2), .string ((rd_T25 l1_4 x7_2).f3), .slice A218_4 ((rd_T25 l1_4 x7_2).f4).length c218_4, .slice A218_5 ((rd_T25 l1_4 x7_2).f5).length c218_5], .int .i64 (wrap64 (a2 - 1))] (by rfl) rfl rfl (by (try simp only [List.map_toArray, List.map_cons, List.map_nil]); first | done | rfl | (simp only [List.length_drop, List.length_take]; rfl)) ?_
          with_reducible refine (ih k2 (by have := HJ3.out; have := HK2.out; omega) ((rd_T25 l0_4 x7_2).f0) ((rd_T25 l0_4 x7_2).f1) ((rd_T25 l0_4 x7_2).f2) ((rd_T25 l0_4 x7_2).f3) _ _ ((rd_T25 l0_4 x7_2).f4) _ _ ((rd_T25 l0_4 x7_2).f5) ((rd_T25 l1_4 x7_2).f0) ((rd_T25 l1_4 x7_2).f1) ((rd_T25 l1_4 x7_2).f2) ((rd_T25 l1_4 x7_2).f3) _ _ ((rd_T25 l1_4 x7_2).f4) _ _ ((rd_T25 l1_4 x7_2).f5) (wrap64 (a2 - 1)) true _ ?side1 ?side2 ?side3 ?side4 ?side5 ?side6 ?side7 ?side8 A39.out).mono ?_
          (case side1 => repeat (first | exact (Kd.C_below HR217_4.out HB.out) | (with_reducible refine Kd.C_alloc ?_ _) | (with_reducible refine Kd.C_drewN ?_ _) | (with_reducible refine Kd.C_drew ?_)))
          (case side2 => exact HC217_4.out)
          (case side3 => repeat (first | exact (Kd.C_below HR217_5.out HB.out) | (with_reducible refine Kd.C_alloc ?_ _) | (with_reducible refine Kd.C_drewN ?_ _) | (with_reducible refine Kd.C_drew ?_)))
          (case side4 => exact HC217_5.out)
          (case side5 => repeat (first | exact (Kd.C_below HR218_4.out HB.out) | (with_reducible refine Kd.C_alloc ?_ _) | (with_reducible refine Kd.C_drewN ?_ _) | (with_reducible refine Kd.C_drew ?_)))
          (case side6 => exact HC218_4.out)
          (case side7 => repeat (first | exact (Kd.C_below HR218_5.out HB.out) | (with_reducible refine Kd.C_alloc ?_ _) | (with_reducible refine Kd.C_drewN ?_ _) | (with_reducible refine Kd.C_drew ?_)))
          (case side8 => exact HC218_5.out)
          rintro e w44 ⟨rfl, hb⟩
          refine ⟨_, rfl, ?_⟩
          have n0_ := Aside0.mk (qAm (g := gb214) (o := .cells #[.int .i64 a0_0, .bool a0_1, .int .i64 a0_2, .string a0_3, .slice (some ad217) l0_4.length c0_4, .slice A0_5 l0_5.length c0_5] 25 (0, 0)) (by (with_reducible repeat (first | refine qAg ?_ _ | refine qAi ?_ | refine blk_alloc ?_ _)); exact BK214.out) hb)
          have n1_ := Aside0.mk (qAm (g := gb215) (o := .cells #[.int .i64 a1_0, .bool a1_1, .int .i64 a1_2, .string a1_3, .slice (some ad218) l1_4.length c1_4, .slice A1_5 l1_5.length c1_5] 25 (0, 0)) (by (with_reducible repeat (first | refine qAg ?_ _ | refine qAi ?_ | refine blk_alloc ?_ _)); exact BK215.out) hb)
          have n2_ := Aside0.mk (qAj (by repeat (first | (with_reducible first | exact HB.out | apply qAd | apply qAc | apply qAe | refine qAf ?_ GE214.out | refine qAf ?_ GE215.out) | exact HB.out)) hb)
          clear BK214
          clear BK215
          clear HB
          have BK214 := n0_
          have BK215 := n1_
          have HB := n2_
          clear n0_ n1_ n2_
          (try clear hb)
          (try clear hb2)
          (try clear hk)
          (try clear hi)
          refine hK.out _ _ ⟨(qAb BK214.out 0).trans rfl, (qAb BK214.out 1).trans rfl, (qAb BK214.out 2).trans rfl, (qAb BK214.out 3).trans rfl, (qAb BK214.out 4).trans rfl, (qAb BK214.out 5).trans rfl, (qAb BK215.out 0).trans rfl, (qAb BK215.out 1).trans rfl, (qAb BK215.out 2).trans rfl, (qAb BK215.out 3).trans rfl, (qAb BK215.out 4).trans rfl, (qAb BK215.out 5).trans rfl, ((HB.out.cell (World.block_lt_of_cell? w _ hw217_0)).trans hw217_0), ((HB.out.cell (World.block_lt_of_cell? w _ hw217_1)).trans hw217_1), ((HB.out.cell (World.block_lt_of_cell? w _ hw217_2)).trans hw217_2), ((HB.out.cell (World.block_lt_of_cell? w _ hw217_3)).trans hw217_3), ((HB.out.cell (World.block_lt_of_cell? w _ hw217_4)).trans hw217_4), ((HB.out.cell (World.block_lt_of_cell? w _ hw217_5)).trans hw217_5), ((HB.out.cell (World.block_lt_of_cell? w _ hw218_0)).trans hw218_0), ((HB.out.cell (World.block_lt_of_cell? w _ hw218_1)).trans hw218_1), ((HB.out.cell (World.block_lt_of_cell? w _ hw218_2)).trans hw218_2), ((HB.out.cell (World.block_lt_of_cell? w _ hw218_3)).trans hw218_3), ((HB.out.cell (World.block_lt_of_cell? w _ hw218_4)).trans hw218_4), ((HB.out.cell (World.block_lt_of_cell? w _ hw218_5)).trans hw218_5)⟩ (fun hHeld => ?_)
          clear hK K
          refine norm_ (a' := ?_) ?_ ?_
          rotate_left
          ·show Act.put _ (some 74) _ = _
           simp only [Act.put, List.setIfInBounds_toArray, List.set_cons_zero, List.set_cons_succ, i64_w, i32_w]
           rfl
          refine pure_ (i := 13) (N := some 75) (v := ?_) (a' := ?_) #[true, true, true, true, true, true, true, true, true, true, true, true, true, true] rfl rfl (any_of HT_.out (by kernel_rfl)) (fun _ _ _ h => h) (Or.inl ⟨by rfl, ?_⟩) ?_ ?_
          rotate_left
          ·intro w'
           go_simp
           with_reducible rfl
          rotate_left
          ·simp only [Act.put, List.setIfInBounds_toArray, List.set_cons_zero, List.set_cons_succ, i64_w, i32_w]
           rfl
          refine done_ (qD7 HT_.out (by kernel_rfl)) ?_
          try go_wp2
          go_roundg k2
          case measure => have := HJ3.out; have := HK2.out; omega
          case rel => exact ⟨(wrap64 (x7_2 + 1)), (by first | rfl | (simp; done) | (simp [*]; done) | exact congrArg Value.bool (nil_ne _) | exact congrArg Value.bool (nil_eq _) | exact congrArg Value.bool (nil_ne' _)), H', ⟨by have := HJ3.out; have := HK2.out; omega⟩, ⟨by (with_reducible repeat (first | refine qAg ?_ _ | refine qAi ?_ | refine blk_alloc ?_ _)); exact BK214.out⟩, ⟨by (with_reducible repeat (first | refine qAg ?_ _ | refine qAi ?_ | refine blk_alloc ?_ _)); exact BK215.out⟩, ⟨by repeat (first | (with_reducible first | exact HB.out | apply qAd | apply qAc | apply qAe | refine qAf ?_ GE214.out | refine qAf ?_ GE215.out) | exact HB.out)⟩⟩
         ·replace c40 := Bool.eq_false_iff.mpr c40
          subst c40
          have H1 : (some false) = some r := by rw [if_neg (show ¬ (false = true) by decide)] at H; exact H
          clear H
          have H := H1
          clear H1
          obtain rfl := Option.some.inj H
          have hnb45 := NB214_215.out
          have hnc45 := NB215_214.out
          have hcz46_0 : wr.cell? ⟨gb214, 0, none⟩ = some (.int .i64 a0_0) := (qAb BK214.out 0).trans rfl
          have hcz46_1 : wr.cell? ⟨gb214, 1, none⟩ = some (.bool a0_1) := (qAb BK214.out 1).trans rfl
          have hcz46_2 : wr.cell? ⟨gb214, 2, none⟩ = some (.int .i64 a0_2) := (qAb BK214.out 2).trans rfl
          have hcz46_3 : wr.cell? ⟨gb214, 3, none⟩ = some (.string a0_3) := (qAb BK214.out 3).trans rfl
          have hcz46_4 : wr.cell? ⟨gb214, 4, none⟩ = some (.slice A0_4 l0_4.length c0_4) := (qAb BK214.out 4).trans rfl
          have hcz46_5 : wr.cell? ⟨gb214, 5, none⟩ = some (.slice A0_5 l0_5.length c0_5) := (qAb BK214.out 5).trans rfl
          have hfz46_0 := qAa BK214.out 0
          have hfz46_1 := qAa BK214.out 1
          have hfz46_2 := qAa BK214.out 2
          have hfz46_3 := qAa BK214.out 3
          have hfz46_4 := qAa BK214.out 4
          have hfz46_5 := qAa BK214.out 5
          try go_wp2
          have n0_ := Aside0.mk (qAi BK214.out)
          have n1_ := Aside0.mk (qAi BK215.out)
          have n2_ := Aside0.mk (qAe HB.out)
          clear BK214
          clear BK215
          clear HB
          have BK214 := n0_
          have BK215 := n1_
          have HB := n2_
          clear n0_ n1_ n2_
          have p217 : 0 ≤ (x7_2 : Int) := of_decide_eq_true (by first | (with_reducible assumption) | assumption)
          have q217 : x7_2 < (l0_4.length : Int) := of_decide_eq_true (by first | (with_reducible assumption) | assumption)
          obtain ⟨ad217, A217_4, c217_4, A217_5, c217_5, e217, hx217_0, hx217_1, hx217_2, hx217_3, hx217_4, hx217_5, hl217_4, hi217_4, hl217_5, hi217_5⟩ := at_T25 HR0_4.out x7_2 p217 q217
          have hw217_5 := hx217_5
          have hw217_4 := hx217_4
          have hw217_3 := hx217_3
          have hw217_2 := hx217_2
          have hw217_1 := hx217_1
          have hw217_0 := hx217_0
          cases e217
          replace hx217_0 := (HB.out.cell (World.block_lt_of_cell? w _ hx217_0)).trans hx217_0
          replace hx217_1 := (HB.out.cell (World.block_lt_of_cell? w _ hx217_1)).trans hx217_1
          replace hx217_2 := (HB.out.cell (World.block_lt_of_cell? w _ hx217_2)).trans hx217_2
          replace hx217_3 := (HB.out.cell (World.block_lt_of_cell? w _ hx217_3)).trans hx217_3
          replace hx217_4 := (HB.out.cell (World.block_lt_of_cell? w _ hx217_4)).trans hx217_4
          replace hx217_5 := (HB.out.cell (World.block_lt_of_cell? w _ hx217_5)).trans hx217_5
          have HR217_4 := Aside0.mk hi217_4
          have HC217_4 := Aside0.mk hl217_4
          clear hi217_4 hl217_4
          have HR217_5 := Aside0.mk hi217_5
          have HC217_5 := Aside0.mk hl217_5
          clear hi217_5 hl217_5
          replace p217 := eq_true p217
          replace q217 := eq_true q217
          have p218 : 0 ≤ (x7_2 : Int) := of_decide_eq_true (by first | (with_reducible assumption) | assumption)
          have q218 : x7_2 < (l1_4.length : Int) := of_decide_eq_true (by first | (with_reducible assumption) | assumption)
          obtain ⟨ad218, A218_4, c218_4, A218_5, c218_5, e218, hx218_0, hx218_1, hx218_2, hx218_3, hx218_4, hx218_5, hl218_4, hi218_4, hl218_5, hi218_5⟩ := at_T25 HR1_4.out x7_2 p218 q218
          have hw218_5 := hx218_5
          have hw218_4 := hx218_4
          have hw218_3 := hx218_3
          have hw218_2 := hx218_2
          have hw218_1 := hx218_1
          have hw218_0 := hx218_0
          cases e218
          replace hx218_0 := (HB.out.cell (World.block_lt_of_cell? w _ hx218_0)).trans hx218_0
          replace hx218_1 := (HB.out.cell (World.block_lt_of_cell? w _ hx218_1)).trans hx218_1
          replace hx218_2 := (HB.out.cell (World.block_lt_of_cell? w _ hx218_2)).trans hx218_2
          replace hx218_3 := (HB.out.cell (World.block_lt_of_cell? w _ hx218_3)).trans hx218_3
          replace hx218_4 := (HB.out.cell (World.block_lt_of_cell? w _ hx218_4)).trans hx218_4
          replace hx218_5 := (HB.out.cell (World.block_lt_of_cell? w _ hx218_5)).trans hx218_5
          have HR218_4 := Aside0.mk hi218_4
          have HC218_4 := Aside0.mk hl218_4
          clear hi218_4 hl218_4
          have HR218_5 := Aside0.mk hi218_5
          have HC218_5 := Aside0.mk hl218_5
          clear hi218_5 hl218_5
          replace p218 := eq_true p218
          replace q218 := eq_true q218
          refine start_ (n := 14) (S := fun w' => w'.cell? ⟨gb214, 0, none⟩ = some (.int .i64 a0_0) ∧ w'.cell? ⟨gb214, 1, none⟩ = some (.bool a0_1) ∧ w'.cell? ⟨gb214, 2, none⟩ = some (.int .i64 a0_2) ∧ w'.cell? ⟨gb214, 3, none⟩ = some (.string a0_3) ∧ w'.cell? ⟨gb214, 4, none⟩ = some (.slice (some ad217) l0_4.length c0_4) ∧ w'.cell? ⟨gb214, 5, none⟩ = some (.slice A0_5 l0_5.length c0_5) ∧ w'.cell? ⟨gb215, 0, none⟩ = some (.int .i64 a1_0) ∧ w'.cell? ⟨gb215, 1, none⟩ = some (.bool a1_1) ∧ w'.cell? ⟨gb215, 2, none⟩ = some (.int .i64 a1_2) ∧ w'.cell? ⟨gb215, 3, none⟩ = some (.string a1_3) ∧ w'.cell? ⟨gb215, 4, none⟩ = some (.slice (some ad218) l1_4.length c1_4) ∧ w'.cell? ⟨gb215, 5, none⟩ = some (.slice A1_5 l1_5.length c1_5) ∧ w'.cell? (ad217.add ((x7_2).toNat * 6)) = some (.int .i64 ((rd_T25 l0_4 x7_2).f0)) ∧ w'.cell? ⟨(ad217.add ((x7_2).toNat * 6)).block, (ad217.add ((x7_2).toNat * 6)).off + 1, none⟩ = some (.bool ((rd_T25 l0_4 x7_2).f1)) ∧ w'.cell? ⟨(ad217.add ((x7_2).toNat * 6)).block, (ad217.add ((x7_2).toNat * 6)).off + 2, none⟩ = some (.int .i64 ((rd_T25 l0_4 x7_2).f2)) ∧ w'.cell? ⟨(ad217.add ((x7_2).toNat * 6)).block, (ad217.add ((x7_2).toNat * 6)).off + 3, none⟩ = some (.string ((rd_T25 l0_4 x7_2).f3)) ∧ w'.cell? ⟨(ad217.add ((x7_2).toNat * 6)).block, (ad217.add ((x7_2).toNat * 6)).off + 4, none⟩ = some (.slice A217_4 ((rd_T25 l0_4 x7_2).f4).length c217_4) ∧ w'.cell? ⟨(ad217.add ((x7_2).toNat * 6)).block, (ad217.add ((x7_2).toNat * 6)).off + 5, none⟩ = some (.slice A217_5 ((rd_T25 l0_4 x7_2).f5).length c217_5) ∧ w'.cell? (ad218.add ((x7_2).toNat * 6)) = some (.int .i64 ((rd_T25 l1_4 x7_2).f0)) ∧ w'.cell? ⟨(ad218.add ((x7_2).toNat * 6)).block, (ad218.add ((x7_2).toNat * 6)).off + 1, none⟩ = some (.bool ((rd_T25 l1_4 x7_2).f1)) ∧ w'.cell? ⟨(ad218.add ((x7_2).toNat * 6)).block, (ad218.add ((x7_2).toNat * 6)).off + 2, none⟩ = some (.int .i64 ((rd_T25 l1_4 x7_2).f2)) ∧ w'.cell? ⟨(ad218.add ((x7_2).toNat * 6)).block, (ad218.add ((x7_2).toNat * 6)).off + 3, none⟩ = some (.string ((rd_T25 l1_4 x7_2).f3)) ∧ w'.cell? ⟨(ad218.add ((x7_2).toNat * 6)).block, (ad218.add ((x7_2).toNat * 6)).off + 4, none⟩ = some (.slice A218_4 ((rd_T25 l1_4 x7_2).f4).length c218_4) ∧ w'.cell? ⟨(ad218.add ((x7_2).toNat * 6)).block, (ad218.add ((x7_2).toNat * 6)).off + 5, none⟩ = some (.slice A218_5 ((rd_T25 l1_4 x7_2).f5).length c218_5)) (ds := []) #[false, false, false, false, false, false, false, false, false, false, false, false, false, false] (by kernel_rfl) rfl rfl ⟨(qAb BK214.out 0).trans rfl, (qAb BK214.out 1).trans rfl, (qAb BK214.out 2).trans rfl, (qAb BK214.out 3).trans rfl, (qAb BK214.out 4).trans rfl, (qAb BK214.out 5).trans rfl, (qAb BK215.out 0).trans rfl, (qAb BK215.out 1).trans rfl, (qAb BK215.out 2).trans rfl, (qAb BK215.out 3).trans rfl, (qAb BK215.out 4).trans rfl, (qAb BK215.out 5).trans rfl, ((HB.out.cell (World.block_lt_of_cell? w _ hw217_0)).trans hw217_0), ((HB.out.cell (World.block_lt_of_cell? w _ hw217_1)).trans hw217_1), ((HB.out.cell (World.block_lt_of_cell? w _ hw217_2)).trans hw217_2), ((HB.out.cell (World.block_lt_of_cell? w _ hw217_3)).trans hw217_3), ((HB.out.cell (World.block_lt_of_cell? w _ hw217_4)).trans hw217_4), ((HB.out.cell (World.block_lt_of_cell? w _ hw217_5)).trans hw217_5), ((HB.out.cell (World.block_lt_of_cell? w _ hw218_0)).trans hw218_0), ((HB.out.cell (World.block_lt_of_cell? w _ hw218_1)).trans hw218_1), ((HB.out.cell (World.block_lt_of_cell? w _ hw218_2)).trans hw218_2), ((HB.out.cell (World.block_lt_of_cell? w _ hw218_3)).trans hw218_3), ((HB.out.cell (World.block_lt_of_cell? w _ hw218_4)).trans hw218_4), ((HB.out.cell (World.block_lt_of_cell? w _ hw218_5)).trans hw218_5)⟩ (fun hHeld => ?_); refine qCm hogsheadlaw0_SameValue.tab6 hogsheadlaw0_SameValue.bits6 (fun HT_ HW_ => ?_)
          generalize wr.drew = w47 at BK214 BK215 HB HR217_4 HR217_5 HR218_4 HR218_5 hx217_0 hx217_1 hx217_2 hx217_3 hx217_4 hx217_5 hx218_0 hx218_1 hx218_2 hx218_3 hx218_4 hx218_5 hHeld ⊢
          refine pure_ (i := 0) (N := some 62) (v := ?_) (a' := ?_) #[true, false, false, false, false, false, false, false, false, false, false, false, false, false] rfl rfl (any_of HT_.out (by kernel_rfl)) (fun _ _ _ h => h) (Or.inl ⟨by rfl, ?_⟩) ?_ ?_
          rotate_left
          ·intro w'
           go_simp
           with_reducible rfl
          rotate_left
          ·simp only [Act.put, List.setIfInBounds_toArray, List.set_cons_zero, List.set_cons_succ, i64_w, i32_w]
           rfl
          refine pure_ (i := 2) (N := some 64) (v := ?_) (a' := ?_) #[true, false, true, false, false, false, false, false, false, false, false, false, false, false] rfl rfl (any_of HT_.out (by kernel_rfl)) (fun _ _ _ h => h) (Or.inl ⟨by rfl, ?_⟩) ?_ ?_
          rotate_left
          ·intro w'
           go_simp
           with_reducible rfl
          rotate_left
          ·simp only [Act.put, List.setIfInBounds_toArray, List.set_cons_zero, List.set_cons_succ, i64_w, i32_w]
           rfl
          refine pure_ (i := 5) (N := some 67) (v := ?_) (a' := ?_) #[true, false, true, false, false, true, false, false, false, false, false, false, false, false] rfl rfl (any_of HT_.out (by kernel_rfl)) (fun _ _ _ h => h) (Or.inl ⟨by rfl, ?_⟩) ?_ ?_
          rotate_left
          ·intro w'
           go_simp
           with_reducible rfl
          rotate_left
          ·simp only [Act.put, List.setIfInBounds_toArray, List.set_cons_zero, List.set_cons_succ, i64_w, i32_w]
           rfl
          refine pure_ (i := 7) (N := some 69) (v := ?_) (a' := ?_) #[true, false, true, false, false, true, false, true, false, false, false, false, false, false] rfl rfl (any_of HT_.out (by kernel_rfl)) (fun _ _ _ h => h) (Or.inl ⟨by rfl, ?_⟩) ?_ ?_
          rotate_left
          ·intro w'
           go_simp
           with_reducible rfl
          rotate_left
          ·simp only [Act.put, List.setIfInBounds_toArray, List.set_cons_zero, List.set_cons_succ, i64_w, i32_w]
           rfl
          refine pure_ (i := 10) (N := some 72) (v := ?_) (a' := ?_) #[true, false, true, false, false, true, false, true, false, false, true, false, false, false] rfl rfl (any_of HT_.out (by kernel_rfl)) (fun _ _ _ h => h) (Or.inl ⟨by rfl, ?_⟩) ?_ ?_
          rotate_left
          ·intro w'
           go_simp
           with_reducible rfl
          rotate_left
          ·simp only [Act.put, List.setIfInBounds_toArray, List.set_cons_zero, List.set_cons_succ, i64_w, i32_w]
           rfl
          refine pure_ (i := 11) (N := some 73) (v := ?_) (a' := ?_) #[true, false, true, false, false, true, false, true, false, false, true, true, false, false] rfl rfl (any_of HT_.out (by kernel_rfl)) (fun _ _ _ h => h) (Or.inl ⟨by rfl, ?_⟩) ?_ ?_
          rotate_left
          ·intro w'
           go_simp
           with_reducible rfl
          rotate_left
          ·simp only [Act.put, List.setIfInBounds_toArray, List.set_cons_zero, List.set_cons_succ, i64_w, i32_w]
           rfl
          refine take_ (i := 1) (N := some 63) (v := ?_) (a' := ?_) #[true, true, true, false, false, true, false, true, false, false, true, true, false, false] rfl rfl (qBh HT_.out HW_.out (by kernel_rfl)) (fun _ _ _ h => h) (Or.inl ⟨by rfl, ?_⟩) hHeld ?_ ?_
          rotate_left
          ·rintro w' ⟨s0, s1, s2, s3, s4, s5, s6, s7, s8, s9, s10, s11, s12, s13, s14, s15, s16, s17, s18, s19, s20, s21, s22, s23⟩
           go_simp
           with_reducible rfl
          rotate_left
          ·simp only [Act.put, List.setIfInBounds_toArray, List.set_cons_zero, List.set_cons_succ, i64_w, i32_w]
           rfl
          refine pure_ (i := 3) (N := some 65) (v := ?_) (a' := ?_) #[true, true, true, true, false, true, false, true, false, false, true, true, false, false] rfl rfl (any_of HT_.out (by kernel_rfl)) (fun _ _ _ h => h) (Or.inl ⟨by rfl, ?_⟩) ?_ ?_
          rotate_left
          ·intro w'
           go_simp
           with_reducible rfl
          rotate_left
          ·simp only [Act.put, List.setIfInBounds_toArray, List.set_cons_zero, List.set_cons_succ, i64_w, i32_w]
           rfl
          refine take_ (i := 4) (N := some 66) (v := ?_) (a' := ?_) #[true, true, true, true, true, true, false, true, false, false, true, true, false, false] rfl rfl (qBh HT_.out HW_.out (by kernel_rfl)) (fun _ _ _ h => h) (Or.inl ⟨by rfl, ?_⟩) hHeld ?_ ?_
          rotate_left
          ·rintro w' ⟨s0, s1, s2, s3, s4, s5, s6, s7, s8, s9, s10, s11, s12, s13, s14, s15, s16, s17, s18, s19, s20, s21, s22, s23⟩
           go_simp
           with_reducible rfl
          rotate_left
          ·simp only [Act.put, List.setIfInBounds_toArray, List.set_cons_zero, List.set_cons_succ, i64_w, i32_w]
           rfl
          refine take_ (i := 6) (N := some 68) (v := ?_) (a' := ?_) #[true, true, true, true, true, true, true, true, false, false, true, true, false, false] rfl rfl (qBh HT_.out HW_.out (by kernel_rfl)) (fun _ _ _ h => h) (Or.inl ⟨by rfl, ?_⟩) hHeld ?_ ?_
          rotate_left
          ·rintro w' ⟨s0, s1, s2, s3, s4, s5, s6, s7, s8, s9, s10, s11, s12, s13, s14, s15, s16, s17, s18, s19, s20, s21, s22, s23⟩
           go_simp
           with_reducible rfl
          rotate_left
          ·simp only [Act.put, List.setIfInBounds_toArray, List.set_cons_zero, List.set_cons_succ, i64_w, i32_w]
           rfl
          refine pure_ (i := 8) (N := some 70) (v := ?_) (a' := ?_) #[true, true, true, true, true, true, true, true, true, false, true, true, false, false] rfl rfl (any_of HT_.out (by kernel_rfl)) (fun _ _ _ h => h) (Or.inl ⟨by rfl, ?_⟩) ?_ ?_
          rotate_left
          ·intro w'
           go_simp
           with_reducible rfl
          rotate_left
          ·simp only [Act.put, List.setIfInBounds_toArray, List.set_cons_zero, List.set_cons_succ, i64_w, i32_w]
           rfl
          refine take_ (i := 9) (N := some 71) (v := ?_) (a' := ?_) #[true, true, true, true, true, true, true, true, true, true, true, true, false, false] rfl rfl (qBh HT_.out HW_.out (by kernel_rfl)) (fun _ _ _ h => h) (Or.inl ⟨by rfl, ?_⟩) hHeld ?_ ?_
          rotate_left
          ·rintro w' ⟨s0, s1, s2, s3, s4, s5, s6, s7, s8, s9, s10, s11, s12, s13, s14, s15, s16, s17, s18, s19, s20, s21, s22, s23⟩
           go_simp
           with_reducible rfl
          rotate_left
          ·simp only [Act.put, List.setIfInBounds_toArray, List.set_cons_zero, List.set_cons_succ, i64_w, i32_w]
           rfl
          refine one_ (i := 12) (N := some 74) #[true, true, true, true, true, true, true, true, true, true, true, true, true, false] rfl rfl (one_of HT_.out (by kernel_rfl)) (by decide) (fun K hK => ?_)
          refine goes_ Tryd.func25 (by kernel_rfl) rfl #[.agg #[.int .i64 ((rd_T25 l0_4 x7_2).f0), .bool ((rd_T25 l0_4 x7_2).f1), .int .i64 ((rd_T25 l0_4 x7_2).f2), .string ((rd_T25 l0_4 x7_2).f3), .slice A217_4 ((rd_T25 l0_4 x7_2).f4).length c217_4, .slice A217_5 ((rd_T25 l0_4 x7_2).f5).length c217_5], .agg #[.int .i64 ((rd_T25 l1_4 x7_2).f0), .bool ((rd_T25 l1_4 x7_2).f1), .int .i64 ((rd_T25 l1_4 x7_2).f2), .string ((rd_T25 l1_4 x7_2).f3), .slice A218_4 ((rd_T25 l1_4 x7_2).f4).length c218_4, .slice A218_5 ((rd_T25 l1_4 x7_2).f5).length c218_5], .int .i64 (wrap64 (a2 - 1))] (by rfl) rfl rfl (by (try simp only [List.map_toArray, List.map_cons, List.map_nil]); first | done | rfl | (simp only [List.length_drop, List.length_take]; rfl)) ?_
          with_reducible refine (ih k2 (by have := HJ3.out; have := HK2.out; omega) ((rd_T25 l0_4 x7_2).f0) ((rd_T25 l0_4 x7_2).f1) ((rd_T25 l0_4 x7_2).f2) ((rd_T25 l0_4 x7_2).f3) _ _ ((rd_T25 l0_4 x7_2).f4) _ _ ((rd_T25 l0_4 x7_2).f5) ((rd_T25 l1_4 x7_2).f0) ((rd_T25 l1_4 x7_2).f1) ((rd_T25 l1_4 x7_2).f2) ((rd_T25 l1_4 x7_2).f3) _ _ ((rd_T25 l1_4 x7_2).f4) _ _ ((rd_T25 l1_4 x7_2).f5) (wrap64 (a2 - 1)) false _ ?side1 ?side2 ?side3 ?side4 ?side5 ?side6 ?side7 ?side8 A39.out).mono ?_
          (case side1 => repeat (first | exact (Kd.C_below HR217_4.out HB.out) | (with_reducible refine Kd.C_alloc ?_ _) | (with_reducible refine Kd.C_drewN ?_ _) | (with_reducible refine Kd.C_drew ?_)))
          (case side2 => exact HC217_4.out)
          (case side3 => repeat (first | exact (Kd.C_below HR217_5.out HB.out) | (with_reducible refine Kd.C_alloc ?_ _) | (with_reducible refine Kd.C_drewN ?_ _) | (with_reducible refine Kd.C_drew ?_)))
          (case side4 => exact HC217_5.out)
          (case side5 => repeat (first | exact (Kd.C_below HR218_4.out HB.out) | (with_reducible refine Kd.C_alloc ?_ _) | (with_reducible refine Kd.C_drewN ?_ _) | (with_reducible refine Kd.C_drew ?_)))
          (case side6 => exact HC218_4.out)
          (case side7 => repeat (first | exact (Kd.C_below HR218_5.out HB.out) | (with_reducible refine Kd.C_alloc ?_ _) | (with_reducible refine Kd.C_drewN ?_ _) | (with_reducible refine Kd.C_drew ?_)))
          (case side8 => exact HC218_5.out)
          rintro e w48 ⟨rfl, hb⟩
          refine ⟨_, rfl, ?_⟩
          have n0_ := Aside0.mk (qAm (g := gb214) (o := .cells #[.int .i64 a0_0, .bool a0_1, .int .i64 a0_2, .string a0_3, .slice (some ad217) l0_4.length c0_4, .slice A0_5 l0_5.length c0_5] 25 (0, 0)) (by (with_reducible repeat (first | refine qAg ?_ _ | refine qAi ?_ | refine blk_alloc ?_ _)); exact BK214.out) hb)
          have n1_ := Aside0.mk (qAm (g := gb215) (o := .cells #[.int .i64 a1_0, .bool a1_1, .int .i64 a1_2, .string a1_3, .slice (some ad218) l1_4.length c1_4, .slice A1_5 l1_5.length c1_5] 25 (0, 0)) (by (with_reducible repeat (first | refine qAg ?_ _ | refine qAi ?_ | refine blk_alloc ?_ _)); exact BK215.out) hb)
          have n2_ := Aside0.mk (qAj (by repeat (first | (with_reducible first | exact HB.out | apply qAd | apply qAc | apply qAe | refine qAf ?_ GE214.out | refine qAf ?_ GE215.out) | exact HB.out)) hb)
          clear BK214
          clear BK215
          clear HB
          have BK214 := n0_
          have BK215 := n1_
          have HB := n2_
          clear n0_ n1_ n2_
          (try clear hb)
          (try clear hb2)
          (try clear hk)
          (try clear hi)
          refine hK.out _ _ ⟨(qAb BK214.out 0).trans rfl, (qAb BK214.out 1).trans rfl, (qAb BK214.out 2).trans rfl, (qAb BK214.out 3).trans rfl, (qAb BK214.out 4).trans rfl, (qAb BK214.out 5).trans rfl, (qAb BK215.out 0).trans rfl, (qAb BK215.out 1).trans rfl, (qAb BK215.out 2).trans rfl, (qAb BK215.out 3).trans rfl, (qAb BK215.out 4).trans rfl, (qAb BK215.out 5).trans rfl, ((HB.out.cell (World.block_lt_of_cell? w _ hw217_0)).trans hw217_0), ((HB.out.cell (World.block_lt_of_cell? w _ hw217_1)).trans hw217_1), ((HB.out.cell (World.block_lt_of_cell? w _ hw217_2)).trans hw217_2), ((HB.out.cell (World.block_lt_of_cell? w _ hw217_3)).trans hw217_3), ((HB.out.cell (World.block_lt_of_cell? w _ hw217_4)).trans hw217_4), ((HB.out.cell (World.block_lt_of_cell? w _ hw217_5)).trans hw217_5), ((HB.out.cell (World.block_lt_of_cell? w _ hw218_0)).trans hw218_0), ((HB.out.cell (World.block_lt_of_cell? w _ hw218_1)).trans hw218_1), ((HB.out.cell (World.block_lt_of_cell? w _ hw218_2)).trans hw218_2), ((HB.out.cell (World.block_lt_of_cell? w _ hw218_3)).trans hw218_3), ((HB.out.cell (World.block_lt_of_cell? w _ hw218_4)).trans hw218_4), ((HB.out.cell (World.block_lt_of_cell? w _ hw218_5)).trans hw218_5)⟩ (fun hHeld => ?_)
          clear hK K
          refine norm_ (a' := ?_) ?_ ?_
          rotate_left
          ·show Act.put _ (some 74) _ = _
           simp only [Act.put, List.setIfInBounds_toArray, List.set_cons_zero, List.set_cons_succ, i64_w, i32_w]
           rfl
          refine pure_ (i := 13) (N := some 75) (v := ?_) (a' := ?_) #[true, true, true, true, true, true, true, true, true, true, true, true, true, true] rfl rfl (any_of HT_.out (by kernel_rfl)) (fun _ _ _ h => h) (Or.inl ⟨by rfl, ?_⟩) ?_ ?_
          rotate_left
          ·intro w'
           go_simp
           with_reducible rfl
          rotate_left
          ·simp only [Act.put, List.setIfInBounds_toArray, List.set_cons_zero, List.set_cons_succ, i64_w, i32_w]
           rfl
          refine done_ (qD7 HT_.out (by kernel_rfl)) ?_
          try go_wp2
          go_ret
          exact ⟨by first | rfl | (simp [qAl, qAk] <;> rfl) | (simp [*, qAl, qAk] <;> rfl), by repeat (first | (with_reducible first | exact HB.out | apply qAd | apply qAc | apply qAe | refine qAf ?_ GE214.out | refine qAf ?_ GE215.out) | exact HB.out)⟩
        ·rw [if_neg c38] at H
         exact absurd H (by simp)
       ·rw [if_neg c37] at H
        exact absurd H (by simp)
      ·rw [if_neg c36] at H
       have c36b0 : decide (x7_2 < (l0_4.length : Int)) = false := decide_eq_false c36
       clear c36
       obtain rfl := Option.some.inj H
       have hnb49 := NB214_215.out
       have hnc49 := NB215_214.out
       have hcz50_0 : wr.cell? ⟨gb214, 0, none⟩ = some (.int .i64 a0_0) := (qAb BK214.out 0).trans rfl
       have hcz50_1 : wr.cell? ⟨gb214, 1, none⟩ = some (.bool a0_1) := (qAb BK214.out 1).trans rfl
       have hcz50_2 : wr.cell? ⟨gb214, 2, none⟩ = some (.int .i64 a0_2) := (qAb BK214.out 2).trans rfl
       have hcz50_3 : wr.cell? ⟨gb214, 3, none⟩ = some (.string a0_3) := (qAb BK214.out 3).trans rfl
       have hcz50_4 : wr.cell? ⟨gb214, 4, none⟩ = some (.slice A0_4 l0_4.length c0_4) := (qAb BK214.out 4).trans rfl
       have hcz50_5 : wr.cell? ⟨gb214, 5, none⟩ = some (.slice A0_5 l0_5.length c0_5) := (qAb BK214.out 5).trans rfl
       have hfz50_0 := qAa BK214.out 0
       have hfz50_1 := qAa BK214.out 1
       have hfz50_2 := qAa BK214.out 2
       have hfz50_3 := qAa BK214.out 3
       have hfz50_4 := qAa BK214.out 4
       have hfz50_5 := qAa BK214.out 5
       go_wp2
       go_ret
       exact ⟨by first | rfl | (simp [qAl, qAk] <;> rfl) | (simp [*, qAl, qAk] <;> rfl), by repeat (first | (with_reducible first | exact HB.out | apply qAd | apply qAc | apply qAe | refine qAf ?_ GE214.out | refine qAf ?_ GE215.out) | exact HB.out)⟩
end Go.Proofs.YtbnoihpooeombaaDoor.P

namespace Go.Proofs.YtbnoihpooeombaaDoor.P
open Go.Proofs.YtbnoihpooeombaaDoor.X
open Go.RowKit Go.Proofs.YtbnoihpooeombaaDoorW.PrintWords Go.Proofs.YtbnoihpooeombaaDoorW.PrintLast Go.Proofs.YtbnoihpooeombaaDoorW.PrintMore
attribute [local go_sem] qAr qAx
set_option linter.unusedVariables false
set_option linter.unusedSimpArgs false
mutual
def hogsheadref15_Get.j0 : Nat → ByteArray → Bool → Int → Bool → Int → ByteArray → List (S25) → List ByteArray → Option (Int × Bool × Int × ByteArray × (List (S25)) × List ByteArray × Bool)
 | 0, _, _, _, _, _, _, _, _ => none
 | k + 1, x1, x14, x202000, x202001, x202002, x202003, x202004, x202005 => if x14 = true then (some (0, false, 0, (⟨#[]⟩ : ByteArray), ([] : List (S25)), ([] : List ByteArray), false)) else (hogsheadref15_Get.l0 k x1 0 x202000 x202001 x202002 x202003 x202004 x202005)
def hogsheadref15_Get.l0 : Nat → ByteArray → Int → Int → Bool → Int → ByteArray → List (S25) → List ByteArray → Option (Int × Bool × Int × ByteArray × (List (S25)) × List ByteArray × Bool)
 | 0, _, _, _, _, _, _, _, _ => none
 | k + 1, x1, x6, x202000, x202001, x202002, x202003, x202004, x202005 => if x6 < (x202005.length : Int) then (if 0 ≤ x6 then (if (rdOf ByteArray.empty x202005 x6).toList = x1.toList then (if x6 < (x202004.length : Int) then (some ((rd_T25 x202004 x6).f0, (rd_T25 x202004 x6).f1, (rd_T25 x202004 x6).f2, (rd_T25 x202004 x6).f3, (rd_T25 x202004 x6).f4, (rd_T25 x202004 x6).f5, true)) else (none)) else (hogsheadref15_Get.l0 k x1 (wrap64 (x6 + 1)) x202000 x202001 x202002 x202003 x202004 x202005)) else (none)) else (some (0, false, 0, (⟨#[]⟩ : ByteArray), ([] : List (S25)), ([] : List ByteArray), false))
end
def hogsheadref15_Get.f (k : Nat) (a0_0 : Int) (a0_1 : Bool) (a0_2 : Int) (a0_3 : ByteArray) (l0_4 : List (S25)) (l0_5 : List ByteArray) (a1 : ByteArray) : Option (Int × Bool × Int × ByteArray × (List (S25)) × List ByteArray × Bool) := if a0_0 = 5 then ((hogsheadref15_May.f k a0_0 a0_1 a0_2 a0_3 l0_4 l0_5).bind fun t203 => (hogsheadref15_Get.j0 k a1 (!t203) a0_0 a0_1 a0_2 a0_3 l0_4 l0_5)) else (hogsheadref15_Get.j0 k a1 true a0_0 a0_1 a0_2 a0_3 l0_4 l0_5)
end Go.Proofs.YtbnoihpooeombaaDoor.P

namespace Go.Proofs.YtbnoihpooeombaaDoor.X
open Go.RowKit Go.Proofs.YtbnoihpooeombaaDoorW.PrintWords Go.Proofs.YtbnoihpooeombaaDoor.P
set_option linter.unusedVariables false
set_option linter.unusedSimpArgs false
theorem qEh (a b : List ByteArray) (h : a.length = b.length) (hn : a.length ≤ 1000000) : ∀ (d i : Nat), a.length - i = d → i ≤ a.length →
    Ev (fun k => hogsheadlaw0_SameTexts.l0 k a b (i : Int)) (decide (a.drop i = b.drop i)) := by
  intro d
  induction d with
  | zero =>
    intro i hd hi
    refine ⟨1, fun k hk => ?_⟩
    obtain ⟨k, rfl⟩ : ∃ m, k = m + 1 := ⟨k - 1, by omega⟩
    simp only [hogsheadlaw0_SameTexts.l0]
    rw [if_neg (by omega), List.drop_eq_nil_of_le (by omega), List.drop_eq_nil_of_le (by omega)]
    rfl
  | succ d ih =>
    intro i hd hi
    have hlt : i < a.length := by omega
    have hlt2 : i < b.length := by omega
    obtain ⟨K, hK⟩ := ih (i + 1) (by omega) (by omega)
    refine ⟨K + 1, fun k hk => ?_⟩
    obtain ⟨k, rfl⟩ : ∃ m, k = m + 1 := ⟨k - 1, by omega⟩
    simp only [hogsheadlaw0_SameTexts.l0]
    rw [if_pos (by omega), if_pos (by omega), if_pos (by omega), qAz a i hlt, qAz b i hlt2, List.drop_eq_getElem_cons hlt, List.drop_eq_getElem_cons hlt2]
    by_cases e : a[i] = b[i]
    · rw [if_pos ((qBl _ _).2 e), wrap_i i a.length hlt (by omega)]
      have := hK k (by omega)
      simp only at this
      rw [this, e]
      congr 1
      rw [decide_eq_decide, List.cons.injEq]
      simp only [true_and]
    · rw [if_neg (fun h => e ((qBl _ _).1 h))]
      congr 1
      symm
      rw [decide_eq_false_iff_not, List.cons.injEq]
      exact fun x => e x.1
theorem qC6 (a b : List ByteArray) (hn : a.length ≤ 1000000) : Ev (fun k => hogsheadlaw0_SameTexts.f k a b) (decide (a = b)) := by
  by_cases h : a.length = b.length
  · obtain ⟨K, hK⟩ := qEh a b h hn a.length 0 (by omega) (by omega)
    refine ⟨K, fun k hk => ?_⟩
    have := hK k hk
    show hogsheadlaw0_SameTexts.f k a b = _
    unfold hogsheadlaw0_SameTexts.f
    rw [if_pos (by omega)]
    exact this
  · refine ⟨0, fun k hk => ?_⟩
    show hogsheadlaw0_SameTexts.f k a b = _
    unfold hogsheadlaw0_SameTexts.f
    rw [if_neg (by omega), decide_eq_false (fun e => h (by rw [e]))]
theorem qEf : ∀ (d : Nat), d ≤ 1000 → ∀ (a b : S25), (∃ D, T D 100000 a) → Ev (fun k => hogsheadlaw0_SameValue.f k a.f0 a.f1 a.f2 a.f3 a.f4 a.f5 b.f0 b.f1 b.f2 b.f3 b.f4 b.f5 (d : Int)) (sameV d a b) := by
  intro d
  induction d with
  | zero =>
    intro hd a b ⟨D, hT⟩
    obtain ⟨K, hK⟩ := qC6 a.f5 b.f5 (by have := hT.len; omega)
    refine ⟨K + 2, fun k hk => ?_⟩
    obtain ⟨k, rfl⟩ : ∃ m, k = m + 2 := ⟨k - 2, by omega⟩
    have hK := hK (k + 1) (by omega)
    simp only at hK
    simp only [hogsheadlaw0_SameValue.f, hogsheadlaw0_SameValue.j0, hK, Option.bind_some]
    rw [sameV]
    simp
  | succ d ih =>
    intro hd a b hT0
    obtain ⟨D, hT⟩ := hT0
    have hlen := hT.len
    obtain ⟨K, hK⟩ := qC6 a.f5 b.f5 (by omega)
    have hch : ∀ y ∈ a.f4, ∀ z, Ev (fun k => hogsheadlaw0_SameValue.f k y.f0 y.f1 y.f2 y.f3 y.f4 y.f5 z.f0 z.f1 z.f2 z.f3 z.f4 z.f5 (d : Int)) (sameV d y z) := fun y hy z => by
      cases D with
      | zero => exact hT.1.elim
      | succ D => exact ih (by omega) y z ⟨D, hT.child hy⟩
    have hloop : a.f4.length = b.f4.length → ∀ (j i : Nat), a.f4.length - i = j → i ≤ a.f4.length → Ev (fun k => hogsheadlaw0_SameValue.l0 k ((d + 1 : Nat) : Int) (i : Int) a.f0 a.f1 a.f2 a.f3 a.f4 a.f5 b.f0 b.f1 b.f2 b.f3 b.f4 b.f5) (allEq (sameV d) (a.f4.drop i) (b.f4.drop i)) := by
      intro hl j
      induction j with
      | zero =>
        intro i hj hi
        refine ⟨1, fun k hk => ?_⟩
        obtain ⟨k, rfl⟩ : ∃ m, k = m + 1 := ⟨k - 1, by omega⟩
        simp only [hogsheadlaw0_SameValue.l0]
        rw [if_neg (by omega), List.drop_eq_nil_of_le (by omega), List.drop_eq_nil_of_le (by omega)]
        rfl
      | succ j ihj =>
        intro i hj hi
        have hlt : i < a.f4.length := by omega
        have hlt2 : i < b.f4.length := by omega
        obtain ⟨K1, h1⟩ := hch a.f4[i] (List.getElem_mem hlt) b.f4[i]
        obtain ⟨K2, h2⟩ := ihj (i + 1) (by omega) (by omega)
        refine ⟨K1 + K2 + 1, fun k hk => ?_⟩
        obtain ⟨k, rfl⟩ : ∃ m, k = m + 1 := ⟨k - 1, by omega⟩
        have h1 := h1 k (by omega)
        have h2 := h2 k (by omega)
        simp only at h1 h2
        have E1 : Aside0 (wrap64 (((d + 1 : Nat) : Int) - 1) = (d : Int)) := ⟨qBb (by omega) (by omega)⟩
        have E3 : Aside0 (wrap64 ((i : Int) + 1) = ((i + 1 : Nat) : Int)) := ⟨qBb (by omega) (by omega)⟩
        simp only [hogsheadlaw0_SameValue.l0]
        rw [if_pos (by omega), if_pos (by omega), if_pos (by omega), qB1 a.f4 i hlt, qB1 b.f4 i hlt2, E1.out, h1, E3.out, h2, List.drop_eq_getElem_cons hlt, List.drop_eq_getElem_cons hlt2, allEq]
        simp only [Option.bind_some]
        cases sameV d a.f4[i] b.f4[i]
        · rw [if_neg (by decide)]; rfl
        · rw [if_pos rfl]; rfl
    have hfin : ∃ K2, ∀ k, K2 ≤ k → a.f4.length = b.f4.length → hogsheadlaw0_SameValue.l0 k ((d + 1 : Nat) : Int) 0 a.f0 a.f1 a.f2 a.f3 a.f4 a.f5 b.f0 b.f1 b.f2 b.f3 b.f4 b.f5 = some (allEq (sameV d) a.f4 b.f4) := by
      by_cases hl : a.f4.length = b.f4.length
      · obtain ⟨K2, h2⟩ := hloop hl a.f4.length 0 (by omega) (by omega)
        exact ⟨K2, fun k hk _ => h2 k hk⟩
      · exact ⟨0, fun k hk h => absurd h hl⟩
    obtain ⟨K2, h2⟩ := hfin
    refine ⟨K + K2 + 2, fun k hk => ?_⟩
    obtain ⟨k, rfl⟩ : ∃ m, k = m + 2 := ⟨k - 2, by omega⟩
    have hK := hK (k + 1) (by omega)
    have h2 := h2 k (by omega)
    simp only at hK
    have hne := qDl (sameV d) a.f4 b.f4
    simp only [hogsheadlaw0_SameValue.f, hogsheadlaw0_SameValue.j0, hK, Option.bind_some]
    rw [sameV]
    by_cases c0 : a.f0 = b.f0
    · rw [if_pos c0, beq_iff_eq.2 c0, Bool.true_and]
      by_cases c1 : a.f1 = b.f1
      · rw [if_neg (by simp [c1]), beq_iff_eq.2 c1, Bool.true_and]
        by_cases c2 : a.f2 = b.f2
        · rw [if_pos c2, beq_iff_eq.2 c2, Bool.true_and]
          by_cases c3 : a.f3.toList = b.f3.toList
          · rw [if_pos c3, beq_iff_eq.2 c3, Bool.true_and]
            by_cases c5 : a.f5 = b.f5
            · rw [if_pos (decide_eq_true c5), decide_eq_true c5, Bool.true_and]
              by_cases c4 : a.f4.length = b.f4.length
              · rw [if_pos (by omega), if_neg (by rw [decide_eq_true_eq]; omega)]
                exact h2 c4
              · rw [if_neg (by omega), hne c4]; simp
            · rw [if_neg (by simp [c5]), decide_eq_false c5]; simp
          · rw [if_neg c3, beq_eq_false_iff_ne.2 c3]; simp
        · rw [if_neg c2, beq_eq_false_iff_ne.2 c2]; simp
      · rw [if_pos (by simp [c1]), beq_eq_false_iff_ne.2 c1]; simp
    · rw [if_neg c0, beq_eq_false_iff_ne.2 c0]; simp
theorem qDt : ∀ D a b, tameD D a → (sameV D a b = true ↔ a = b)
  | 0, a, b, h => h.elim
  | d + 1, a, b, h => by
    rw [sameV]
    simp only [Bool.and_eq_true, beq_iff_eq, decide_eq_true_eq]
    rw [qDm (sameV d) a.f4 b.f4 (fun x hx y => qDt d x y (h.2.2.2 x hx)), qBl]
    cases a; cases b
    simp only [S25.mk.injEq]
    constructor
    · rintro ⟨h0, h1, h2, h3, h5, h4⟩; exact ⟨h0, h1, h2, h3, h4, h5⟩
    · rintro ⟨h0, h1, h2, h3, h4, h5⟩; exact ⟨h0, h1, h2, h3, h5, h4⟩
theorem qDq (D : Nat) (hD : D ≤ 100) (a : S25) (hT : T D 100000 a) : Ev (fun k => hogsheadlaw0_SameValue.f k a.f0 a.f1 a.f2 a.f3 a.f4 a.f5 a.f0 a.f1 a.f2 a.f3 a.f4 a.f5 100) true := by
  have h := qEf 100 (by omega) a a ⟨D, hT⟩
  rw [(qDt 100 a a (qB5 hD a hT.1).1).2 rfl] at h
  exact h
def nilV : S25 := ⟨0, false, 0, ⟨#[]⟩, [], []⟩
def getV (x : S25) (key : ByteArray) : Option S25 := if x.f0 = 5 ∧ goodV 16 x = true ∧ isK x.f5 key = true then x.f4[posK x.f5 key]? else none
def tup (o : Option S25) : Int × Bool × Int × ByteArray × List S25 × List ByteArray × Bool :=
  ((o.getD nilV).f0, (o.getD nilV).f1, (o.getD nilV).f2, (o.getD nilV).f3, (o.getD nilV).f4, (o.getD nilV).f5, o.isSome)
theorem isK_lt {K : List ByteArray} {key : ByteArray} (h : isK K key = true) : posK K key < K.length ∧ ∀ h : posK K key < K.length, K[posK K key] = key := by
  obtain ⟨h1, h2⟩ := of_decide_eq_true h
  exact ⟨h1, fun _ => h2⟩
theorem qFb {x : S25} (h5 : x.f0 = 5) (hg : goodV 16 x = true) : x.f5.length = x.f4.length ∧ qAw x.f5 = true := by
  have hf := qCj (qCv (d := 15) hg).1
  exact ⟨hf.2.2.2.2.1 h5, hf.2.2.2.2.2.2.2.2.2.2⟩
theorem qHy {D : Nat} {x : S25} (key : ByteArray) (hT : T D 4000 x) : Ev (fun k => value_Get.f k x.f0 x.f1 x.f2 x.f3 x.f4 x.f5 key) (tup (getV x key)) := by
  have hl := hT.len
  by_cases h5 : x.f0 = 5
  · cases hg : goodV 16 x with
    | false =>
      refine ⟨0, fun k hk => ?_⟩
      show value_Get.f k _ _ _ _ _ _ _ = _
      unfold value_Get.f
      rw [if_pos h5]
      have hm : (mayV 16 ⟨x.f0, x.f1, x.f2, x.f3, x.f4, x.f5⟩ 0).2 = false := (qB9 D x hT).trans hg
      rw [if_neg (by rw [hm]; decide), getV, if_neg (by rw [hg]; simp)]
      rfl
    | true =>
      obtain ⟨he, hr⟩ := qFb h5 hg
      obtain ⟨K, hK⟩ := qEe x.f5 key hr (by omega)
      refine ⟨K, fun k hk => ?_⟩
      have hK := hK k hk
      simp only at hK
      show value_Get.f k _ _ _ _ _ _ _ = _
      unfold value_Get.f
      have hm : (mayV 16 ⟨x.f0, x.f1, x.f2, x.f3, x.f4, x.f5⟩ 0).2 = true := (qB9 D x hT).trans hg
      rw [if_pos h5, if_pos hm, hK]
      simp only [Option.bind_some]
      cases hi : isK x.f5 key with
      | false => rw [if_neg (by decide), getV, if_neg (by rw [hi]; simp)]; rfl
      | true =>
        have hp := (isK_lt hi).1
        rw [if_pos rfl, if_pos ⟨by omega, by omega⟩, getV, if_pos ⟨h5, hg, hi⟩, qB1 x.f4 _ (by omega), List.getElem?_eq_getElem (by omega)]
        rfl
  · refine ⟨0, fun k hk => ?_⟩
    show value_Get.f k _ _ _ _ _ _ _ = _
    unfold value_Get.f
    rw [if_neg h5, getV, if_neg (fun h => h5 h.1)]
    rfl
end Go.Proofs.YtbnoihpooeombaaDoor.X

namespace Go.Proofs.YtbnoihpooeombaaDoor.X
open Go.RowKit Go.Proofs.YtbnoihpooeombaaDoorW.PrintWords Go.Proofs.YtbnoihpooeombaaDoorW.PrintLast Go.Proofs.YtbnoihpooeombaaDoorW.PrintMore Go.Proofs.YtbnoihpooeombaaDoor.P
set_option linter.unusedVariables false
set_option linter.unusedSimpArgs false
theorem qA7 {P : Program} (w : World) (dT sT ty elem : TypeId) (g o dLen dCap : Nat) (a : Addr) (sLen sCap : Nat) (cur : Array Value) (t : TypeId) (cs : List Value) (sz n : Nat)
    (hu : P.underlying dT = some (.slice elem)) (hs : (P.info? elem).map (·.size) = some sz) (hg : w.heap[g]? = some (.cells cur t (0, 0))) (hn : n = Nat.min sLen dLen) (hcl : cs.length = n * sz)
    (hsrc : ∀ j v, cs[j]? = some v → w.cell? (a.add j) = some v) (hfit : o + cs.length ≤ cur.size) (h1 : ∀ v ∈ cs, v.oneCell' = true) :
    (Builtin.copy_ #[dT, sT] ty #[.slice (some ⟨g, o, none⟩) dLen dCap, .slice (some a) sLen sCap]).run P w = .ok (goInt n) (w.setRow g (cur.toList.take o ++ cs ++ cur.toList.drop (o + cs.length)).toArray) := by
  have hl := run_firstCells_some (P := P) w sz n a sLen sCap cs hcl hsrc
  have hst := run_storeCells_at P g o t cs 0 cur w hg (by simpa using hfit) h1
  cases hq : P.info? elem with
  | none => simp [hq] at hs
  | some i =>
    have hi : i.size = sz := by simpa [hq] using hs
    simp [Builtin.copy_, run_underlying hu, Builtin.lenOf, sizeOf, typeInfo, hq, hi, ← hn, hl, hst]
theorem qBi (w : World) (g : Nat) (cs : Array Value) : w.grownBy (w.setRow g cs) (some g) :=
  ⟨rfl, rfl, rfl, by simp [World.setRow], fun k _ hk => setRow_other _ _ _ _ (fun e => hk (by rw [e]))⟩
theorem qBj {w : World} {g t : Nat} {cur : Array Value} {xs : List Value} {m : Nat} (hg : w.heap[g]? = some (.cells cur t (0, 0))) (hx : cur.toList.take m = xs) (j : Nat) (u : Value) (hj : xs[j]? = some u) : w.cell? ⟨g, j, none⟩ = some u := by
  rw [qAb hg j]
  subst hx
  rw [List.getElem?_take] at hj
  split at hj
  · simpa using hj
  · cases hj
theorem qDi {α : Type} (cur xs ys : List α) (a s m p q : Nat) (hp : p = a + s) (hq : q = a) (hx : cur.take (a + m) = xs) (hxl : xs.length = a + m) (hys : ys.length = s) (hfit : a + s + m ≤ cur.length) (t : Nat) (ht : t = a + s + m) :
    (((cur.take p ++ xs.drop a ++ cur.drop (p + (xs.drop a).length)).take q ++ ys ++ (cur.take p ++ xs.drop a ++ cur.drop (p + (xs.drop a).length)).drop (q + ys.length))).take t = xs.take a ++ (ys ++ xs.drop a) := by
  subst hp hq ht
  have e1 : (cur.take (q + s)).length = q + s := by rw [List.length_take]; omega
  have e2 : (cur.take (q + s) ++ xs.drop q ++ cur.drop (q + s + (xs.drop q).length)).take q = xs.take q := by
    rw [List.append_assoc, List.take_append_of_le_length (by omega), List.take_take, ← hx, List.take_take]
    congr 1
    omega
  have e3 : (cur.take (q + s) ++ xs.drop q ++ cur.drop (q + s + (xs.drop q).length)).drop (q + ys.length) = xs.drop q ++ cur.drop (q + s + (xs.drop q).length) := by
    rw [hys, List.append_assoc, List.drop_append, e1, Nat.sub_self, List.drop_zero, List.drop_eq_nil_of_le (by omega), List.nil_append]
  rw [e2, e3]
  have e4 : (xs.take q ++ (ys ++ xs.drop q)).length = q + s + m := by
    simp only [List.length_append, List.length_take, List.length_drop]; omega
  have e5 : xs.take q ++ ys ++ (xs.drop q ++ cur.drop (q + s + (xs.drop q).length)) = (xs.take q ++ (ys ++ xs.drop q)) ++ cur.drop (q + s + (xs.drop q).length) := by simp only [List.append_assoc]
  rw [e5, List.take_append_of_le_length (by omega), List.take_of_length_le (by omega)]
theorem qBa {w w1 : World} (h : Below w.heap.size w w1) (r : Option Nat) : w.grownBy w1 r := ⟨h.os, h.tape, h.output, h.size, fun k hk _ => h.block k hk⟩
set_option maxHeartbeats 3200000 in
set_option maxRecDepth 100000 in
theorem qE9 (v : Value) (n base vb tv : Nat) (xs ys : List Value) (w : World) (ho : w.ownsRow base 9 1 v n xs) (hv : w.heap[vb]? = some (.cells ys.toArray tv (0, 0))) (hys : ys.length = 1) (hbase : base ≤ w.heap.size) (hbig : (n + 1) * 16 ≤ 140737488355328) (h1y : ∀ u ∈ ys, u.oneCell' = true) :
    Calls Tryd.prog 56 #[v, .int .i64 n, .slice (some ⟨vb, 0, none⟩) 1 1] w fun e w' => ∃ v', e = .returned v' ∧ w'.ownsRow base 9 1 v' (n + 1) (xs ++ ys) ∧ w.grownBy w' v.ownBlock := by
  obtain ⟨i0, hi0, hz0, hzs, hzb⟩ := info_parts (show (Tryd.prog.info? 9).map (fun i => (i.zero, i.size, i.bytes)) = some (some (.string ⟨#[]⟩), 1, 16) by kernel_rfl)
  obtain ⟨hl, hcase⟩ := ho
  have hcy : ∀ j u, ys[j]? = some u → w.cell? ((⟨vb, 0, none⟩ : Addr).add j) = some u := fun j u hj => by
    rw [qBg, qAb hv j]; simpa using hj
  rcases hcase with ⟨rfl, rfl⟩ | ⟨g, cap, cur, rfl, hgb, hg, hnc, hcm, hcs, htk⟩
  · obtain rfl : xs = [] := List.length_eq_zero_iff.1 (by omega)
    have hap := fun ty => run_append_grow_src (P := Tryd.prog) (w := w) 23 23 ty 9 i0 _ Tryd.underlying23 hi0 hz0 none 0 0 []
      (run_firstCells_none _ _ _ _ _) (.slice (some ⟨vb, 0, none⟩) 1 1) 1 ys
      (by rw [hzs]; exact Src.ofSlice _ Tryd.underlying23 ⟨vb, 0, none⟩ 1 1 ys (by omega) hcy h1y) (by omega) (by omega) (by rw [hzb]; exact growslice_fits (by omega) (by omega))
    have hge := grownCap_ge w (0 + 1) 0 9
    have hle := grownCap_le_maxLen w (0 + 1) 0 9 (by unfold maxLen; omega)
    generalize grownCap w (0 + 1) 0 9 = G at *
    simp only [Nat.zero_add, List.nil_append] at hap hge
    have HAP := Aside0.mk hap
    have HGE := Aside0.mk hge
    have HLE := Aside0.mk hle
    clear hap hge hle hcy hl hv
    go_enter Tryd.func56, Tryd.ntmps56
    go_wp2_with (at_builtin; refine qAs rfl _ _ 23 23 rfl _ _ _ _ rfl rfl (HAP.out _) ?_)
    go_ret
    exact ⟨_, rfl, qB3 (size := 1) (z := (.string ⟨#[]⟩ : Value).cells) (by omega) rfl HGE.out HLE.out _ rfl hbase, qBa (qAe (qAd (Below.refl _ _) _)) _⟩
  · have hcx : ∀ j u, xs[j]? = some u → w.cell? ((⟨g, 0, none⟩ : Addr).add j) = some u := fun j u hj => by
      rw [qBg]; exact qBj hg htk j u hj
    unfold maxLen at hcm
    by_cases hroom : n + 1 ≤ cap
    · have hap := fun ty => run_append_room (P := Tryd.prog) w 23 ty 9 i0 Tryd.underlying23 hi0 g n cap cur hg ⟨vb, 0, none⟩ 1 1 ys (by rw [hzs]; omega) hcy h1y hroom (by rw [hzs, hcs, hys]; have := Nat.mul_le_mul_right 1 hroom; omega)
      have HAP := Aside0.mk hap
      have HG := Aside0.mk hg
      have HT := Aside0.mk htk
      clear hap hcy hcx hv htk hg
      go_enter Tryd.func56, Tryd.ntmps56
      go_wp2_with (at_builtin; refine qAs rfl _ _ 23 23 rfl _ _ _ _ rfl rfl (HAP.out _) ?_)
      go_ret
      refine ⟨_, rfl, ⟨by rw [List.length_append, hl, hys]; omega, .inr ⟨g, cap, _, rfl, hgb, setRow_heap _ _ _ _ _ _ HG.out, hroom, by unfold maxLen; omega, ?_, ?_⟩⟩, qBi _ _ _⟩
      · have h2 := Nat.mul_le_mul_right 1 hroom
        simp only [hzs, List.size_toArray, List.length_append, List.length_take, List.length_drop, Array.length_toList, hcs, hys]
        omega
      · have HT' : cur.toList.take (n * 1) = xs := HT.out
        simp only [hzs, Nat.mul_one] at HT' ⊢
        rw [HT', ← List.append_assoc, List.take_append_of_le_length (by rw [List.length_append, hl, hys]; omega), List.take_of_length_le (by rw [List.length_append, hl, hys]; omega)]
    · have hap := fun ty => run_append_grow_src (P := Tryd.prog) (w := w) 23 23 ty 9 i0 _ Tryd.underlying23 hi0 hz0 (some ⟨g, 0, none⟩) n cap xs
        (by rw [hzs]; exact run_firstCells_some _ 1 n ⟨g, 0, none⟩ n cap xs hl hcx) (.slice (some ⟨vb, 0, none⟩) 1 1) 1 ys
        (by rw [hzs]; exact Src.ofSlice _ Tryd.underlying23 ⟨vb, 0, none⟩ 1 1 ys (by omega) hcy h1y) (by omega) (by omega) (by rw [hzb]; exact growslice_fits (by omega) (by omega))
      have hge := grownCap_ge w (n + 1) cap 9
      have hle := grownCap_le_maxLen w (n + 1) cap 9 (by unfold maxLen; omega)
      generalize grownCap w (n + 1) cap 9 = G at *
      have HAP := Aside0.mk hap
      have HGE := Aside0.mk hge
      have HLE := Aside0.mk hle
      clear hap hge hle hcy hcx hv
      go_enter Tryd.func56, Tryd.ntmps56
      go_wp2_with (at_builtin; refine qAs rfl _ _ 23 23 rfl _ _ _ _ rfl rfl (HAP.out _) ?_)
      go_ret
      exact ⟨_, rfl, qB3 (size := 1) (z := (.string ⟨#[]⟩ : Value).cells) (by rw [List.length_append, hl, hys]; omega) rfl HGE.out HLE.out _ rfl hbase, qBa (qAe (qAd (Below.refl _ _) _)) _⟩
set_option maxHeartbeats 6400000 in
set_option maxRecDepth 100000 in
theorem qE8 (v : Value) (n i base vb tv : Nat) (xs ys : List Value) (w : World) (ho : w.ownsRow base 9 1 v n xs) (hi : i < n) (hv : w.heap[vb]? = some (.cells ys.toArray tv (0, 0))) (hys : ys.length = 1) (hne : some vb ≠ v.ownBlock) (hbase : base ≤ w.heap.size) (hbig : (n + 1) * 16 ≤ 140737488355328) (h1x : ∀ u ∈ xs, u.oneCell' = true) (h1y : ∀ u ∈ ys, u.oneCell' = true) :
    Calls Tryd.prog 56 #[v, .int .i64 i, .slice (some ⟨vb, 0, none⟩) 1 1] w fun e w' => ∃ v', e = .returned v' ∧ w'.ownsRow base 9 1 v' (n + 1) (xs.take (i * 1) ++ (ys ++ xs.drop (i * 1))) ∧ w.grownBy w' v.ownBlock := by
  obtain ⟨i0, hi0, hz0, hzs, hzb⟩ := info_parts (show (Tryd.prog.info? 9).map (fun i => (i.zero, i.size, i.bytes)) = some (some (.string ⟨#[]⟩), 1, 16) by kernel_rfl)
  have hsi : (Tryd.prog.info? 9).map (·.size) = some 1 := by rw [hi0]; simp [hzs]
  obtain ⟨hl, hcase⟩ := ho
  rcases hcase with ⟨_, h0⟩ | ⟨g, cap, cur, rfl, hgb, hg, hnc, hcm, hcs, htk⟩
  · omega
  have hng : vb ≠ g := fun e => hne (by rw [e]; rfl)
  unfold maxLen at hcm
  have hnc1 : ¬ (cap = i) := by omega
  have hin : ¬ ((i : Int) = (n : Int)) := by omega
  have mixed : Tryd.prog.follows .mixedOrders = true := by kernel_rfl
  have hb1 : (0 : Int) ≤ (i : Int) + 1 := by omega
  have hin' : i ≤ n := by omega
  have htn : ((i : Int) + 1).toNat = i + 1 := by omega
  have hb3 : (i : Int) ≤ (n : Int) + 1 := by omega
  have hdl : (xs.drop (i * 1)).length = (n - i) * 1 := by rw [List.length_drop, hl]; omega
  by_cases hroom : n + 1 ≤ cap
  · have hw1 : IntKind.i64.wrap ((i : Int) + 1) = ((i + 1 : Nat) : Int) := by rw [IntKind.wrap_i64]; omega
    have hnc2 : ¬ (cap = i + 1) := by omega
    have hov : ∀ lb cb W, W.heap[vb]? = some (.cells ys.toArray tv (0, 0)) → W.heap[g]? = some (.cells cur 9 (0, 0)) → (callFunc 78 #[.slice (some ⟨vb, 0, none⟩) 1 1, .slice (some ⟨g, i + 1, none⟩) lb cb]).run Tryd.prog W = .ok (.value (.bool false)) W := fun lb cb W hv hg => by
      rw [run_callFunc_extern Tryd.func78 (by kernel_rfl) (by kernel_rfl) (by kernel_rfl) (e := Extern.SlicesOverlaps.overlaps #[23, 23] #[4]) (by kernel_rfl),
        Lib.run_overlaps_apart W 23 4 9 Tryd.underlying23 1 Tryd.sizeOf9 ⟨vb, 0, none⟩ ⟨g, i + 1, none⟩ 1 1 lb cb hng tv 9 ys.length (cap * 1) (by simp [World.shape?, hv]) (by simp [World.shape?, hg, hcs]) (by omega) (qAa hv 0) (qAa hv _)]
      rfl
    have h6 : (n - i) * 1 + i * 1 = n * 1 := by rw [← Nat.add_mul]; congr 1; omega
    have h7 : (i + 1) * 1 + (n - i) * 1 ≤ cap * 1 := by rw [← Nat.add_mul]; exact Nat.mul_le_mul_right _ (by omega)
    have h8 : i * 1 + 1 ≤ cap * 1 := by
      have := Nat.mul_le_mul_right 1 (show i + 1 ≤ cap by omega)
      rw [Nat.add_mul] at this; omega
    obtain ⟨cur1, hcur1⟩ : ∃ c : Array Value, c = (cur.toList.take (i + 1) ++ xs.drop (i * 1) ++ cur.toList.drop (i + 1 + (xs.drop (i * 1)).length)).toArray := ⟨_, rfl⟩
    obtain ⟨cur2, hcur2⟩ : ∃ c : Array Value, c = (cur1.toList.take (i) ++ ys ++ cur1.toList.drop (i + ys.length)).toArray := ⟨_, rfl⟩
    have hc1s : cur1.size = cap * 1 := by
      rw [hcur1]; simp only [List.size_toArray, List.length_append, List.length_take, List.length_drop, Array.length_toList, hcs, hl]; omega
    have hc2s : cur2.size = cap * 1 := by
      rw [hcur2]; simp only [List.size_toArray, List.length_append, List.length_take, List.length_drop, Array.length_toList, hc1s, hys]; omega
    have hcp1 : ∀ W : World, W.heap[g]? = some (.cells cur 9 (0, 0)) → ∀ ty dc sc, (Builtin.copy_ #[23, 23] ty #[.slice (some ⟨g, i + 1, none⟩) (n - i) dc, .slice (some ⟨g, i, none⟩) (n + 1 - i) sc]).run Tryd.prog W = .ok (goInt (n - i : Nat)) (W.setRow g cur1) := fun W hW ty dc sc => by
      rw [hcur1]
      exact qA7 W _ _ ty _ g (i + 1) (n - i) dc ⟨g, i, none⟩ (n + 1 - i) sc cur _ (xs.drop (i * 1)) 1 (n - i) Tryd.underlying23 hsi hW (by simp only [Nat.min_def]; split <;> omega) hdl
        (fun j u hj => by
          rw [Addr.add_lit]
          exact qBj hW htk _ u (by rw [List.getElem?_drop] at hj; exact (congrArg (fun k => xs[k]?) (by omega)).trans hj)) (by rw [hdl, hcs]; omega) (fun u hu => h1x u (List.mem_of_mem_drop hu))
    have hcp2 : ∀ W : World, W.heap[g]? = some (.cells cur1 9 (0, 0)) → W.heap[vb]? = some (.cells ys.toArray tv (0, 0)) → ∀ ty dc, (Builtin.copy_ #[23, 23] ty #[.slice (some ⟨g, i, none⟩) (n + 1 - i) dc, .slice (some ⟨vb, 0, none⟩) 1 1]).run Tryd.prog W = .ok (goInt (1 : Nat)) (W.setRow g cur2) := fun W hW hV ty dc => by
      rw [hcur2]
      exact qA7 W _ _ ty _ g (i) (n + 1 - i) dc ⟨vb, 0, none⟩ 1 1 cur1 _ ys 1 1 Tryd.underlying23 hsi hW (by simp only [Nat.min_def]; split <;> omega) (by omega)
        (fun j u hj => by rw [qBg, qAb hV j]; simpa using hj) (by rw [hys, hc1s]; omega) h1y
    have h9 : i * 1 + (n - i) * 1 = n * 1 := by omega
    have htk2 : cur2.toList.take ((n + 1) * 1) = xs.take (i * 1) ++ (ys ++ xs.drop (i * 1)) := by
      rw [hcur2, hcur1]
      exact qDi cur.toList xs ys (i * 1) 1 ((n - i) * 1) _ _ (by omega) (by omega) (by rw [h9]; exact htk) (by rw [h9]; exact hl) hys (by rw [Array.length_toList, hcs]; omega) _ (by omega)
    have HG := Aside0.mk hg
    have HV := Aside0.mk hv
    have HOV := Aside0.mk hov
    have HT := Aside0.mk htk
    have hov1 := fun lb cb => HOV.out lb cb w hv hg
    clear hg hv htk hov hdl
    go_enter Tryd.func56, Tryd.ntmps56
    have HC1 := Aside0.mk hcp1
    have HC2 := Aside0.mk hcp2
    have HT2 := Aside0.mk htk2
    clear hcp1 hcp2 htk2 hcur1 hcur2
    go_wp2_with (simp only [hov1])
    have hcd := HC1.out w.drew HG.out
    have HW1 := Aside0.mk (setRow_heap w.drew g cur cur1 _ _ HG.out)
    have HV1 := Aside0.mk ((setRow_other w.drew g vb cur1 hng).trans HV.out)
    have hce := HC2.out (w.drew.setRow g cur1) HW1.out HV1.out
    go_region_law_o (fail)
    go_wp2
    go_ret
    exact ⟨_, rfl, ⟨by simp only [List.length_append, List.length_take, List.length_drop, hl, hys]; omega, .inr ⟨g, cap, cur2, rfl, hgb, setRow_heap _ _ _ _ _ _ HW1.out, hroom, by unfold maxLen; omega, hc2s, HT2.out⟩⟩, qBv (qBv (qBa (qAe (Below.refl _ _)) _) (qBi _ _ _)) (qBi _ _ _)⟩
  · have hw1 : IntKind.i64.wrap ((i : Int) + 1) = (i : Int) + 1 := by rw [IntKind.wrap_i64]; omega
    have hz3 : (cap : Int) < (n : Int) + 1 := by omega
    have hkk : (n : Int) + 1 - (i : Int) = ((n + 1 - i : Nat) : Int) := by omega
    have hik : i + (n + 1 - i) = n + 1 := by omega
    have h6 : (n - i) * 1 + i * 1 = n * 1 := by rw [← Nat.add_mul]; congr 1; omega
    have hxt : (xs.take (i * 1)).length = i * 1 := by rw [List.length_take, hl]; omega
    have hcx : ∀ j u, xs[j]? = some u → w.cell? ((⟨g, 0, none⟩ : Addr).add j) = some u := fun j u hj => by
      rw [qBg]; exact qBj hg htk j u hj
    have hap0 := fun ty => Lib.run_append_grow_zeros (P := Tryd.prog) w 23 3 ty 9 i0 _ .i64 .i64 Tryd.underlying23 Tryd.underlying3 hi0 hz0 (some ⟨g, 0, none⟩) i cap (xs.take (i * 1))
      (by rw [hzs]; exact run_firstCells_some _ 1 i ⟨g, 0, none⟩ i cap _ hxt (fun j u hj => by
        rw [List.getElem?_take] at hj
        split at hj
        · exact hcx j u hj
        · cases hj)) (n + 1 - i) (by omega) (by rw [hzs]; omega) (by omega) (by omega) (by rw [hzb]; omega) (by rw [hzb, hik]; exact growslice_fits (by omega) hbig)
    rw [hik] at hap0
    have hge := grownCap_ge w (n + 1) cap 9
    have hle := grownCap_le_maxLen w (n + 1) cap 9 (by unfold maxLen; omega)
    generalize grownCap w (n + 1) cap 9 = G at *
    unfold maxLen at hle
    obtain ⟨ROW, hROW⟩ : ∃ R : Array Value, R = (xs.take (i * 1)).toArray ++ Builtin.zeroCells (.string ⟨#[]⟩ : Value).cells (n + 1 - i) ++ Builtin.zeroCells (.string ⟨#[]⟩ : Value).cells (G - (n + 1)) := ⟨_, rfl⟩
    rw [← hROW] at hap0
    have hzc : (.string ⟨#[]⟩ : Value).cells.size = 1 := rfl
    have hRs : ROW.size = G * 1 := by
      rw [hROW]
      simp only [Array.size_append, qB0, hzc, List.size_toArray, hxt]
      rw [← Nat.add_mul, ← Nat.add_mul]
      congr 1
      omega
    have hRt : ROW.toList.take (i * 1) = xs.take (i * 1) := by
      rw [hROW, Array.toList_append, Array.toList_append, List.append_assoc, List.take_append_of_le_length (by simp only [hxt]; omega)]
      exact List.take_of_length_le (by simp only [hxt]; omega)
    have h7 : (i + 1) * 1 + (n - i) * 1 ≤ G * 1 := by rw [← Nat.add_mul]; exact Nat.mul_le_mul_right _ (by omega)
    have h8 : i * 1 + 1 = (i + 1) * 1 := by omega
    obtain ⟨cur1, hcur1⟩ : ∃ c : Array Value, c = (ROW.toList.take (i) ++ ys ++ ROW.toList.drop (i + ys.length)).toArray := ⟨_, rfl⟩
    obtain ⟨cur2, hcur2⟩ : ∃ c : Array Value, c = (cur1.toList.take (i + 1) ++ xs.drop (i * 1) ++ cur1.toList.drop (i + 1 + (xs.drop (i * 1)).length)).toArray := ⟨_, rfl⟩
    have hc1s : cur1.size = G * 1 := by
      rw [hcur1]; simp only [List.size_toArray, List.length_append, List.length_take, List.length_drop, Array.length_toList, hRs, hys]; omega
    have hc2s : cur2.size = G * 1 := by
      rw [hcur2]; simp only [List.size_toArray, List.length_append, List.length_take, List.length_drop, Array.length_toList, hc1s, hl]; omega
    have hcp1 : ∀ W : World, W.heap[w.heap.size]? = some (.cells ROW 9 (0, 0)) → W.heap[vb]? = some (.cells ys.toArray tv (0, 0)) → ∀ ty dc, (Builtin.copy_ #[23, 23] ty #[.slice (some ⟨w.heap.size, i, none⟩) (n + 1 - i) dc, .slice (some ⟨vb, 0, none⟩) 1 1]).run Tryd.prog W = .ok (goInt (1 : Nat)) (W.setRow w.heap.size cur1) := fun W hW hV ty dc => by
      rw [hcur1]
      exact qA7 W _ _ ty _ w.heap.size (i) (n + 1 - i) dc ⟨vb, 0, none⟩ 1 1 ROW _ ys 1 1 Tryd.underlying23 hsi hW (by simp only [Nat.min_def]; split <;> omega) (by omega)
        (fun j u hj => by rw [qBg, qAb hV j]; simpa using hj) (by rw [hys, hRs]; omega) h1y
    have hcp2 : ∀ W : World, W.heap[w.heap.size]? = some (.cells cur1 9 (0, 0)) → W.heap[g]? = some (.cells cur 9 (0, 0)) → ∀ ty dc sc, (Builtin.copy_ #[23, 23] ty #[.slice (some ⟨w.heap.size, i + 1, none⟩) (n - i) dc, .slice (some ⟨g, i, none⟩) (n - i) sc]).run Tryd.prog W = .ok (goInt (n - i : Nat)) (W.setRow w.heap.size cur2) := fun W hW hG ty dc sc => by
      rw [hcur2]
      exact qA7 W _ _ ty _ w.heap.size (i + 1) (n - i) dc ⟨g, i, none⟩ (n - i) sc cur1 _ (xs.drop (i * 1)) 1 (n - i) Tryd.underlying23 hsi hW (by simp only [Nat.min_def]; split <;> omega) hdl
        (fun j u hj => by
          rw [Addr.add_lit]
          exact qBj hG htk _ u (by rw [List.getElem?_drop] at hj; exact (congrArg (fun k => xs[k]?) (by omega)).trans hj)) (by rw [hdl, hc1s]; omega) (fun u hu => h1x u (List.mem_of_mem_drop hu))
    have htk2 : cur2.toList.take ((n + 1) * 1) = xs.take (i * 1) ++ (ys ++ xs.drop (i * 1)) := by
      have e1 : cur1.toList.take (i + 1) = xs.take (i * 1) ++ ys := by
        rw [hcur1]
        have : (ROW.toList.take (i) ++ ys).length = i + 1 := by
          rw [List.length_append, List.length_take, Array.length_toList, hRs, hys]; omega
        rw [List.take_append_of_le_length (by omega), List.take_of_length_le (by omega)]
        rw [show ROW.toList.take (i) = xs.take (i * 1) from (congrArg (fun k => ROW.toList.take k) (by omega)).trans hRt]
      rw [hcur2, e1]
      have e4 : (xs.take (i * 1) ++ ys ++ xs.drop (i * 1)).length = (n + 1) * 1 := by
        rw [List.length_append, List.length_append, hxt, hys, hdl]; omega
      rw [List.take_append_of_le_length (by omega), List.take_of_length_le (by omega), List.append_assoc]
    have hap1 : ∀ ty, (Builtin.append_ #[23, 3] ty #[.slice (some ⟨g, 0, none⟩) i cap, .int .i64 ((n : Int) + 1 - (i : Int))]).run Tryd.prog w = .ok (.slice (some ⟨w.heap.size, 0, none⟩) (n + 1) G) (w.drew.alloc (.cells ROW 9)) := fun ty => by
      rw [hkk]; exact hap0 ty
    have HAP := Aside0.mk hap1
    have HC1 := Aside0.mk hcp1
    have HC2 := Aside0.mk hcp2
    have HT2 := Aside0.mk htk2
    have HG := Aside0.mk hg
    have HV := Aside0.mk hv
    have hgl := blk_lt hg
    have hvl := blk_lt hv
    have HN0 := Aside0.mk (qA9 w.drew (.cells ROW 9))
    have HG0 := Aside0.mk (blk_alloc' (w := w.drew) hg (.cells ROW 9))
    have HV0 := Aside0.mk (blk_alloc' (w := w.drew) hv (.cells ROW 9))
    have HB0 := Aside0.mk (qAd (qAe (Below.refl w.heap.size w)) (.cells ROW 9))
    have hGi : ¬ (G = i) := by omega
    have hGim : ¬ (G = i + 1) := by omega
    have hcdA := HC1.out ((w.alloc (.cells ROW 9)).drew) HN0.out HV0.out
    have HW1 := Aside0.mk (setRow_heap ((w.alloc (.cells ROW 9)).drew) w.heap.size ROW cur1 _ _ HN0.out)
    have HG1 := Aside0.mk ((setRow_other ((w.alloc (.cells ROW 9)).drew) w.heap.size g cur1 (by omega)).trans HG0.out)
    have hcdB := HC2.out ((((w.alloc (.cells ROW 9)).drew).setRow w.heap.size cur1).drew) HW1.out HG1.out
    have HW2 := Aside0.mk (setRow_heap ((((w.alloc (.cells ROW 9)).drew).setRow w.heap.size cur1).drew) w.heap.size cur1 cur2 _ _ HW1.out)
    have HBF := Aside0.mk (below_setRow (qAe (below_setRow (qAe (qAd (Below.refl w.heap.size w) (.cells ROW 9))) (Nat.le_refl _) cur1)) (Nat.le_refl _) cur2)
    clear hap0 hap1 hcp1 hcp2 htk2 hg hv htk hcx hcur1 hcur2 hROW hRt hRs hdl hxt hkk hik
    go_enter Tryd.func56, Tryd.ntmps56
    go_wp2_with (at_builtin; refine qAs rfl _ _ 23 3 rfl _ _ _ _ rfl rfl (HAP.out _) ?_)
    go_region_law_o (fail)
    go_wp2
    go_ret
    exact ⟨_, rfl, ⟨by simp only [List.length_append, List.length_take, List.length_drop, hl, hys]; omega, .inr ⟨w.heap.size, G, cur2, rfl, hbase, HW2.out, hge, by unfold maxLen; omega, hc2s, HT2.out⟩⟩, qBa HBF.out _⟩
set_option maxHeartbeats 3200000 in
set_option maxRecDepth 100000 in
theorem qE6 (v : Value) (n base vb tv : Nat) (xs ys : List Value) (w : World) (ho : w.ownsRow base 25 6 v n xs) (hv : w.heap[vb]? = some (.cells ys.toArray tv (0, 0))) (hys : ys.length = 6) (hbase : base ≤ w.heap.size) (hbig : (n + 1) * 88 ≤ 140737488355328) (h1y : ∀ u ∈ ys, u.oneCell' = true) :
    Calls Tryd.prog 57 #[v, .int .i64 n, .slice (some ⟨vb, 0, none⟩) 1 1] w fun e w' => ∃ v', e = .returned v' ∧ w'.ownsRow base 25 6 v' (n + 1) (xs ++ ys) ∧ w.grownBy w' v.ownBlock := by
  obtain ⟨i0, hi0, hz0, hzs, hzb⟩ := info_parts (show (Tryd.prog.info? 25).map (fun i => (i.zero, i.size, i.bytes)) = some (some (.agg #[.int .i64 0, .bool false, .int .i64 0, .string ⟨#[]⟩, .slice none 0 0, .slice none 0 0]), 6, 88) by kernel_rfl)
  obtain ⟨hl, hcase⟩ := ho
  have hcy : ∀ j u, ys[j]? = some u → w.cell? ((⟨vb, 0, none⟩ : Addr).add j) = some u := fun j u hj => by
    rw [qBg, qAb hv j]; simpa using hj
  rcases hcase with ⟨rfl, rfl⟩ | ⟨g, cap, cur, rfl, hgb, hg, hnc, hcm, hcs, htk⟩
  · obtain rfl : xs = [] := List.length_eq_zero_iff.1 (by omega)
    have hap := fun ty => run_append_grow_src (P := Tryd.prog) (w := w) 22 22 ty 25 i0 _ Tryd.underlying22 hi0 hz0 none 0 0 []
      (run_firstCells_none _ _ _ _ _) (.slice (some ⟨vb, 0, none⟩) 1 1) 1 ys
      (by rw [hzs]; exact Src.ofSlice _ Tryd.underlying22 ⟨vb, 0, none⟩ 1 1 ys (by omega) hcy h1y) (by omega) (by omega) (by rw [hzb]; exact growslice_fits (by omega) (by omega))
    have hge := grownCap_ge w (0 + 1) 0 25
    have hle := grownCap_le_maxLen w (0 + 1) 0 25 (by unfold maxLen; omega)
    generalize grownCap w (0 + 1) 0 25 = G at *
    simp only [Nat.zero_add, List.nil_append] at hap hge
    have HAP := Aside0.mk hap
    have HGE := Aside0.mk hge
    have HLE := Aside0.mk hle
    clear hap hge hle hcy hl hv
    go_enter Tryd.func57, Tryd.ntmps57
    go_wp2_with (at_builtin; refine qAs rfl _ _ 22 22 rfl _ _ _ _ rfl rfl (HAP.out _) ?_)
    go_ret
    exact ⟨_, rfl, qB3 (size := 6) (z := (.agg #[.int .i64 0, .bool false, .int .i64 0, .string ⟨#[]⟩, .slice none 0 0, .slice none 0 0] : Value).cells) (by omega) rfl HGE.out HLE.out _ rfl hbase, qBa (qAe (qAd (Below.refl _ _) _)) _⟩
  · have hcx : ∀ j u, xs[j]? = some u → w.cell? ((⟨g, 0, none⟩ : Addr).add j) = some u := fun j u hj => by
      rw [qBg]; exact qBj hg htk j u hj
    unfold maxLen at hcm
    by_cases hroom : n + 1 ≤ cap
    · have hap := fun ty => run_append_room (P := Tryd.prog) w 22 ty 25 i0 Tryd.underlying22 hi0 g n cap cur hg ⟨vb, 0, none⟩ 1 1 ys (by rw [hzs]; omega) hcy h1y hroom (by rw [hzs, hcs, hys]; have := Nat.mul_le_mul_right 6 hroom; omega)
      have HAP := Aside0.mk hap
      have HG := Aside0.mk hg
      have HT := Aside0.mk htk
      clear hap hcy hcx hv htk hg
      go_enter Tryd.func57, Tryd.ntmps57
      go_wp2_with (at_builtin; refine qAs rfl _ _ 22 22 rfl _ _ _ _ rfl rfl (HAP.out _) ?_)
      go_ret
      refine ⟨_, rfl, ⟨by rw [List.length_append, hl, hys]; omega, .inr ⟨g, cap, _, rfl, hgb, setRow_heap _ _ _ _ _ _ HG.out, hroom, by unfold maxLen; omega, ?_, ?_⟩⟩, qBi _ _ _⟩
      · have h2 := Nat.mul_le_mul_right 6 hroom
        simp only [hzs, List.size_toArray, List.length_append, List.length_take, List.length_drop, Array.length_toList, hcs, hys]
        omega
      · have HT' : cur.toList.take (n * 6) = xs := HT.out
        simp only [hzs, Nat.mul_one] at HT' ⊢
        rw [HT', ← List.append_assoc, List.take_append_of_le_length (by rw [List.length_append, hl, hys]; omega), List.take_of_length_le (by rw [List.length_append, hl, hys]; omega)]
    · have hap := fun ty => run_append_grow_src (P := Tryd.prog) (w := w) 22 22 ty 25 i0 _ Tryd.underlying22 hi0 hz0 (some ⟨g, 0, none⟩) n cap xs
        (by rw [hzs]; exact run_firstCells_some _ 6 n ⟨g, 0, none⟩ n cap xs hl hcx) (.slice (some ⟨vb, 0, none⟩) 1 1) 1 ys
        (by rw [hzs]; exact Src.ofSlice _ Tryd.underlying22 ⟨vb, 0, none⟩ 1 1 ys (by omega) hcy h1y) (by omega) (by omega) (by rw [hzb]; exact growslice_fits (by omega) (by omega))
      have hge := grownCap_ge w (n + 1) cap 25
      have hle := grownCap_le_maxLen w (n + 1) cap 25 (by unfold maxLen; omega)
      generalize grownCap w (n + 1) cap 25 = G at *
      have HAP := Aside0.mk hap
      have HGE := Aside0.mk hge
      have HLE := Aside0.mk hle
      clear hap hge hle hcy hcx hv
      go_enter Tryd.func57, Tryd.ntmps57
      go_wp2_with (at_builtin; refine qAs rfl _ _ 22 22 rfl _ _ _ _ rfl rfl (HAP.out _) ?_)
      go_ret
      exact ⟨_, rfl, qB3 (size := 6) (z := (.agg #[.int .i64 0, .bool false, .int .i64 0, .string ⟨#[]⟩, .slice none 0 0, .slice none 0 0] : Value).cells) (by rw [List.length_append, hl, hys]; omega) rfl HGE.out HLE.out _ rfl hbase, qBa (qAe (qAd (Below.refl _ _) _)) _⟩
set_option maxHeartbeats 6400000 in
set_option maxRecDepth 100000 in
theorem qE5 (v : Value) (n i base vb tv : Nat) (xs ys : List Value) (w : World) (ho : w.ownsRow base 25 6 v n xs) (hi : i < n) (hv : w.heap[vb]? = some (.cells ys.toArray tv (0, 0))) (hys : ys.length = 6) (hne : some vb ≠ v.ownBlock) (hbase : base ≤ w.heap.size) (hbig : (n + 1) * 88 ≤ 140737488355328) (h1x : ∀ u ∈ xs, u.oneCell' = true) (h1y : ∀ u ∈ ys, u.oneCell' = true) :
    Calls Tryd.prog 57 #[v, .int .i64 i, .slice (some ⟨vb, 0, none⟩) 1 1] w fun e w' => ∃ v', e = .returned v' ∧ w'.ownsRow base 25 6 v' (n + 1) (xs.take (i * 6) ++ (ys ++ xs.drop (i * 6))) ∧ w.grownBy w' v.ownBlock := by
  obtain ⟨i0, hi0, hz0, hzs, hzb⟩ := info_parts (show (Tryd.prog.info? 25).map (fun i => (i.zero, i.size, i.bytes)) = some (some (.agg #[.int .i64 0, .bool false, .int .i64 0, .string ⟨#[]⟩, .slice none 0 0, .slice none 0 0]), 6, 88) by kernel_rfl)
  have hsi : (Tryd.prog.info? 25).map (·.size) = some 6 := by rw [hi0]; simp [hzs]
  obtain ⟨hl, hcase⟩ := ho
  rcases hcase with ⟨_, h0⟩ | ⟨g, cap, cur, rfl, hgb, hg, hnc, hcm, hcs, htk⟩
  · omega
  have hng : vb ≠ g := fun e => hne (by rw [e]; rfl)
  unfold maxLen at hcm
  have hnc1 : ¬ (cap = i) := by omega
  have hin : ¬ ((i : Int) = (n : Int)) := by omega
  have mixed : Tryd.prog.follows .mixedOrders = true := by kernel_rfl
  have hb1 : (0 : Int) ≤ (i : Int) + 1 := by omega
  have hin' : i ≤ n := by omega
  have htn : ((i : Int) + 1).toNat = i + 1 := by omega
  have hb3 : (i : Int) ≤ (n : Int) + 1 := by omega
  have hdl : (xs.drop (i * 6)).length = (n - i) * 6 := by rw [List.length_drop, hl]; omega
  by_cases hroom : n + 1 ≤ cap
  · have hw1 : IntKind.i64.wrap ((i : Int) + 1) = ((i + 1 : Nat) : Int) := by rw [IntKind.wrap_i64]; omega
    have hnc2 : ¬ (cap = i + 1) := by omega
    have hov : ∀ lb cb W, W.heap[vb]? = some (.cells ys.toArray tv (0, 0)) → W.heap[g]? = some (.cells cur 25 (0, 0)) → (callFunc 80 #[.slice (some ⟨vb, 0, none⟩) 1 1, .slice (some ⟨g, (i + 1) * 6, none⟩) lb cb]).run Tryd.prog W = .ok (.value (.bool false)) W := fun lb cb W hv hg => by
      rw [run_callFunc_extern Tryd.func80 (by kernel_rfl) (by kernel_rfl) (by kernel_rfl) (e := Extern.SlicesOverlaps.overlaps #[22, 22] #[4]) (by kernel_rfl),
        Lib.run_overlaps_apart W 22 4 25 Tryd.underlying22 6 Tryd.sizeOf25 ⟨vb, 0, none⟩ ⟨g, (i + 1) * 6, none⟩ 1 1 lb cb hng tv 25 ys.length (cap * 6) (by simp [World.shape?, hv]) (by simp [World.shape?, hg, hcs]) (by omega) (qAa hv 0) (qAa hv _)]
      rfl
    have h6 : (n - i) * 6 + i * 6 = n * 6 := by rw [← Nat.add_mul]; congr 1; omega
    have h7 : (i + 1) * 6 + (n - i) * 6 ≤ cap * 6 := by rw [← Nat.add_mul]; exact Nat.mul_le_mul_right _ (by omega)
    have h8 : i * 6 + 6 ≤ cap * 6 := by
      have := Nat.mul_le_mul_right 6 (show i + 1 ≤ cap by omega)
      rw [Nat.add_mul] at this; omega
    obtain ⟨cur1, hcur1⟩ : ∃ c : Array Value, c = (cur.toList.take ((i + 1) * 6) ++ xs.drop (i * 6) ++ cur.toList.drop ((i + 1) * 6 + (xs.drop (i * 6)).length)).toArray := ⟨_, rfl⟩
    obtain ⟨cur2, hcur2⟩ : ∃ c : Array Value, c = (cur1.toList.take (i * 6) ++ ys ++ cur1.toList.drop (i * 6 + ys.length)).toArray := ⟨_, rfl⟩
    have hc1s : cur1.size = cap * 6 := by
      rw [hcur1]; simp only [List.size_toArray, List.length_append, List.length_take, List.length_drop, Array.length_toList, hcs, hl]; omega
    have hc2s : cur2.size = cap * 6 := by
      rw [hcur2]; simp only [List.size_toArray, List.length_append, List.length_take, List.length_drop, Array.length_toList, hc1s, hys]; omega
    have hcp1 : ∀ W : World, W.heap[g]? = some (.cells cur 25 (0, 0)) → ∀ ty dc sc, (Builtin.copy_ #[22, 22] ty #[.slice (some ⟨g, (i + 1) * 6, none⟩) (n - i) dc, .slice (some ⟨g, i * 6, none⟩) (n + 1 - i) sc]).run Tryd.prog W = .ok (goInt (n - i : Nat)) (W.setRow g cur1) := fun W hW ty dc sc => by
      rw [hcur1]
      exact qA7 W _ _ ty _ g ((i + 1) * 6) (n - i) dc ⟨g, i * 6, none⟩ (n + 1 - i) sc cur _ (xs.drop (i * 6)) 6 (n - i) Tryd.underlying22 hsi hW (by simp only [Nat.min_def]; split <;> omega) hdl
        (fun j u hj => by
          rw [Addr.add_lit]
          exact qBj hW htk _ u (by rw [List.getElem?_drop] at hj; exact (congrArg (fun k => xs[k]?) (by omega)).trans hj)) (by rw [hdl, hcs]; omega) (fun u hu => h1x u (List.mem_of_mem_drop hu))
    have hcp2 : ∀ W : World, W.heap[g]? = some (.cells cur1 25 (0, 0)) → W.heap[vb]? = some (.cells ys.toArray tv (0, 0)) → ∀ ty dc, (Builtin.copy_ #[22, 22] ty #[.slice (some ⟨g, i * 6, none⟩) (n + 1 - i) dc, .slice (some ⟨vb, 0, none⟩) 1 1]).run Tryd.prog W = .ok (goInt (1 : Nat)) (W.setRow g cur2) := fun W hW hV ty dc => by
      rw [hcur2]
      exact qA7 W _ _ ty _ g (i * 6) (n + 1 - i) dc ⟨vb, 0, none⟩ 1 1 cur1 _ ys 6 1 Tryd.underlying22 hsi hW (by simp only [Nat.min_def]; split <;> omega) (by omega)
        (fun j u hj => by rw [qBg, qAb hV j]; simpa using hj) (by rw [hys, hc1s]; omega) h1y
    have h9 : i * 6 + (n - i) * 6 = n * 6 := by omega
    have htk2 : cur2.toList.take ((n + 1) * 6) = xs.take (i * 6) ++ (ys ++ xs.drop (i * 6)) := by
      rw [hcur2, hcur1]
      exact qDi cur.toList xs ys (i * 6) 6 ((n - i) * 6) _ _ (by omega) (by omega) (by rw [h9]; exact htk) (by rw [h9]; exact hl) hys (by rw [Array.length_toList, hcs]; omega) _ (by omega)
    have HG := Aside0.mk hg
    have HV := Aside0.mk hv
    have HOV := Aside0.mk hov
    have HT := Aside0.mk htk
    have hov1 := fun lb cb => HOV.out lb cb w hv hg
    clear hg hv htk hov hdl
    go_enter Tryd.func57, Tryd.ntmps57
    have HC1 := Aside0.mk hcp1
    have HC2 := Aside0.mk hcp2
    have HT2 := Aside0.mk htk2
    clear hcp1 hcp2 htk2 hcur1 hcur2
    go_wp2_with (simp only [hov1])
    have hcd := HC1.out w.drew HG.out
    have HW1 := Aside0.mk (setRow_heap w.drew g cur cur1 _ _ HG.out)
    have HV1 := Aside0.mk ((setRow_other w.drew g vb cur1 hng).trans HV.out)
    have hce := HC2.out (w.drew.setRow g cur1) HW1.out HV1.out
    go_region_law_o (fail)
    go_wp2
    go_ret
    exact ⟨_, rfl, ⟨by simp only [List.length_append, List.length_take, List.length_drop, hl, hys]; omega, .inr ⟨g, cap, cur2, rfl, hgb, setRow_heap _ _ _ _ _ _ HW1.out, hroom, by unfold maxLen; omega, hc2s, HT2.out⟩⟩, qBv (qBv (qBa (qAe (Below.refl _ _)) _) (qBi _ _ _)) (qBi _ _ _)⟩
  · have hw1 : IntKind.i64.wrap ((i : Int) + 1) = (i : Int) + 1 := by rw [IntKind.wrap_i64]; omega
    have hz3 : (cap : Int) < (n : Int) + 1 := by omega
    have hkk : (n : Int) + 1 - (i : Int) = ((n + 1 - i : Nat) : Int) := by omega
    have hik : i + (n + 1 - i) = n + 1 := by omega
    have h6 : (n - i) * 6 + i * 6 = n * 6 := by rw [← Nat.add_mul]; congr 1; omega
    have hxt : (xs.take (i * 6)).length = i * 6 := by rw [List.length_take, hl]; omega
    have hcx : ∀ j u, xs[j]? = some u → w.cell? ((⟨g, 0, none⟩ : Addr).add j) = some u := fun j u hj => by
      rw [qBg]; exact qBj hg htk j u hj
    have hap0 := fun ty => Lib.run_append_grow_zeros (P := Tryd.prog) w 22 3 ty 25 i0 _ .i64 .i64 Tryd.underlying22 Tryd.underlying3 hi0 hz0 (some ⟨g, 0, none⟩) i cap (xs.take (i * 6))
      (by rw [hzs]; exact run_firstCells_some _ 6 i ⟨g, 0, none⟩ i cap _ hxt (fun j u hj => by
        rw [List.getElem?_take] at hj
        split at hj
        · exact hcx j u hj
        · cases hj)) (n + 1 - i) (by omega) (by rw [hzs]; omega) (by omega) (by omega) (by rw [hzb]; omega) (by rw [hzb, hik]; exact growslice_fits (by omega) hbig)
    rw [hik] at hap0
    have hge := grownCap_ge w (n + 1) cap 25
    have hle := grownCap_le_maxLen w (n + 1) cap 25 (by unfold maxLen; omega)
    generalize grownCap w (n + 1) cap 25 = G at *
    unfold maxLen at hle
    obtain ⟨ROW, hROW⟩ : ∃ R : Array Value, R = (xs.take (i * 6)).toArray ++ Builtin.zeroCells (.agg #[.int .i64 0, .bool false, .int .i64 0, .string ⟨#[]⟩, .slice none 0 0, .slice none 0 0] : Value).cells (n + 1 - i) ++ Builtin.zeroCells (.agg #[.int .i64 0, .bool false, .int .i64 0, .string ⟨#[]⟩, .slice none 0 0, .slice none 0 0] : Value).cells (G - (n + 1)) := ⟨_, rfl⟩
    rw [← hROW] at hap0
    have hzc : (.agg #[.int .i64 0, .bool false, .int .i64 0, .string ⟨#[]⟩, .slice none 0 0, .slice none 0 0] : Value).cells.size = 6 := rfl
    have hRs : ROW.size = G * 6 := by
      rw [hROW]
      simp only [Array.size_append, qB0, hzc, List.size_toArray, hxt]
      rw [← Nat.add_mul, ← Nat.add_mul]
      congr 1
      omega
    have hRt : ROW.toList.take (i * 6) = xs.take (i * 6) := by
      rw [hROW, Array.toList_append, Array.toList_append, List.append_assoc, List.take_append_of_le_length (by simp only [hxt]; omega)]
      exact List.take_of_length_le (by simp only [hxt]; omega)
    have h7 : (i + 1) * 6 + (n - i) * 6 ≤ G * 6 := by rw [← Nat.add_mul]; exact Nat.mul_le_mul_right _ (by omega)
    have h8 : i * 6 + 6 = (i + 1) * 6 := by omega
    obtain ⟨cur1, hcur1⟩ : ∃ c : Array Value, c = (ROW.toList.take (i * 6) ++ ys ++ ROW.toList.drop (i * 6 + ys.length)).toArray := ⟨_, rfl⟩
    obtain ⟨cur2, hcur2⟩ : ∃ c : Array Value, c = (cur1.toList.take ((i + 1) * 6) ++ xs.drop (i * 6) ++ cur1.toList.drop ((i + 1) * 6 + (xs.drop (i * 6)).length)).toArray := ⟨_, rfl⟩
    have hc1s : cur1.size = G * 6 := by
      rw [hcur1]; simp only [List.size_toArray, List.length_append, List.length_take, List.length_drop, Array.length_toList, hRs, hys]; omega
    have hc2s : cur2.size = G * 6 := by
      rw [hcur2]; simp only [List.size_toArray, List.length_append, List.length_take, List.length_drop, Array.length_toList, hc1s, hl]; omega
    have hcp1 : ∀ W : World, W.heap[w.heap.size]? = some (.cells ROW 25 (0, 0)) → W.heap[vb]? = some (.cells ys.toArray tv (0, 0)) → ∀ ty dc, (Builtin.copy_ #[22, 22] ty #[.slice (some ⟨w.heap.size, i * 6, none⟩) (n + 1 - i) dc, .slice (some ⟨vb, 0, none⟩) 1 1]).run Tryd.prog W = .ok (goInt (1 : Nat)) (W.setRow w.heap.size cur1) := fun W hW hV ty dc => by
      rw [hcur1]
      exact qA7 W _ _ ty _ w.heap.size (i * 6) (n + 1 - i) dc ⟨vb, 0, none⟩ 1 1 ROW _ ys 6 1 Tryd.underlying22 hsi hW (by simp only [Nat.min_def]; split <;> omega) (by omega)
        (fun j u hj => by rw [qBg, qAb hV j]; simpa using hj) (by rw [hys, hRs]; omega) h1y
    have hcp2 : ∀ W : World, W.heap[w.heap.size]? = some (.cells cur1 25 (0, 0)) → W.heap[g]? = some (.cells cur 25 (0, 0)) → ∀ ty dc sc, (Builtin.copy_ #[22, 22] ty #[.slice (some ⟨w.heap.size, (i + 1) * 6, none⟩) (n - i) dc, .slice (some ⟨g, i * 6, none⟩) (n - i) sc]).run Tryd.prog W = .ok (goInt (n - i : Nat)) (W.setRow w.heap.size cur2) := fun W hW hG ty dc sc => by
      rw [hcur2]
      exact qA7 W _ _ ty _ w.heap.size ((i + 1) * 6) (n - i) dc ⟨g, i * 6, none⟩ (n - i) sc cur1 _ (xs.drop (i * 6)) 6 (n - i) Tryd.underlying22 hsi hW (by simp only [Nat.min_def]; split <;> omega) hdl
        (fun j u hj => by
          rw [Addr.add_lit]
          exact qBj hG htk _ u (by rw [List.getElem?_drop] at hj; exact (congrArg (fun k => xs[k]?) (by omega)).trans hj)) (by rw [hdl, hc1s]; omega) (fun u hu => h1x u (List.mem_of_mem_drop hu))
    have htk2 : cur2.toList.take ((n + 1) * 6) = xs.take (i * 6) ++ (ys ++ xs.drop (i * 6)) := by
      have e1 : cur1.toList.take ((i + 1) * 6) = xs.take (i * 6) ++ ys := by
        rw [hcur1]
        have : (ROW.toList.take (i * 6) ++ ys).length = (i + 1) * 6 := by
          rw [List.length_append, List.length_take, Array.length_toList, hRs, hys]; omega
        rw [List.take_append_of_le_length (by omega), List.take_of_length_le (by omega)]
        rw [show ROW.toList.take (i * 6) = xs.take (i * 6) from (congrArg (fun k => ROW.toList.take k) (by omega)).trans hRt]
      rw [hcur2, e1]
      have e4 : (xs.take (i * 6) ++ ys ++ xs.drop (i * 6)).length = (n + 1) * 6 := by
        rw [List.length_append, List.length_append, hxt, hys, hdl]; omega
      rw [List.take_append_of_le_length (by omega), List.take_of_length_le (by omega), List.append_assoc]
    have hap1 : ∀ ty, (Builtin.append_ #[22, 3] ty #[.slice (some ⟨g, 0, none⟩) i cap, .int .i64 ((n : Int) + 1 - (i : Int))]).run Tryd.prog w = .ok (.slice (some ⟨w.heap.size, 0, none⟩) (n + 1) G) (w.drew.alloc (.cells ROW 25)) := fun ty => by
      rw [hkk]; exact hap0 ty
    have HAP := Aside0.mk hap1
    have HC1 := Aside0.mk hcp1
    have HC2 := Aside0.mk hcp2
    have HT2 := Aside0.mk htk2
    have HG := Aside0.mk hg
    have HV := Aside0.mk hv
    have hgl := blk_lt hg
    have hvl := blk_lt hv
    have HN0 := Aside0.mk (qA9 w.drew (.cells ROW 25))
    have HG0 := Aside0.mk (blk_alloc' (w := w.drew) hg (.cells ROW 25))
    have HV0 := Aside0.mk (blk_alloc' (w := w.drew) hv (.cells ROW 25))
    have HB0 := Aside0.mk (qAd (qAe (Below.refl w.heap.size w)) (.cells ROW 25))
    have hGi : ¬ (G = i) := by omega
    have hGim : ¬ (G = i + 1) := by omega
    have hcdA := HC1.out ((w.alloc (.cells ROW 25)).drew) HN0.out HV0.out
    have HW1 := Aside0.mk (setRow_heap ((w.alloc (.cells ROW 25)).drew) w.heap.size ROW cur1 _ _ HN0.out)
    have HG1 := Aside0.mk ((setRow_other ((w.alloc (.cells ROW 25)).drew) w.heap.size g cur1 (by omega)).trans HG0.out)
    have hcdB := HC2.out ((((w.alloc (.cells ROW 25)).drew).setRow w.heap.size cur1).drew) HW1.out HG1.out
    have HW2 := Aside0.mk (setRow_heap ((((w.alloc (.cells ROW 25)).drew).setRow w.heap.size cur1).drew) w.heap.size cur1 cur2 _ _ HW1.out)
    have HBF := Aside0.mk (below_setRow (qAe (below_setRow (qAe (qAd (Below.refl w.heap.size w) (.cells ROW 25))) (Nat.le_refl _) cur1)) (Nat.le_refl _) cur2)
    clear hap0 hap1 hcp1 hcp2 htk2 hg hv htk hcx hcur1 hcur2 hROW hRt hRs hdl hxt hkk hik
    go_enter Tryd.func57, Tryd.ntmps57
    go_wp2_with (at_builtin; refine qAs rfl _ _ 22 3 rfl _ _ _ _ rfl rfl (HAP.out _) ?_)
    go_region_law_o (fail)
    go_wp2
    go_ret
    exact ⟨_, rfl, ⟨by simp only [List.length_append, List.length_take, List.length_drop, hl, hys]; omega, .inr ⟨w.heap.size, G, cur2, rfl, hbase, HW2.out, hge, by unfold maxLen; omega, hc2s, HT2.out⟩⟩, qBa HBF.out _⟩
end Go.Proofs.YtbnoihpooeombaaDoor.X

namespace Go.Proofs.YtbnoihpooeombaaDoor.X
open Go.RowKit Go.Proofs.YtbnoihpooeombaaDoorW.PrintWords Go.Proofs.YtbnoihpooeombaaDoorW.PrintLast Go.Proofs.YtbnoihpooeombaaDoorW.PrintMore Go.Proofs.YtbnoihpooeombaaDoor.P
set_option linter.unusedVariables false
set_option linter.unusedSimpArgs false
theorem reps_append {α : Type} {R : α → List Value → Prop} {s : Nat} {ps qs : List α} {cs ds : List Value} (h : Reps R s ps cs) (g : Reps R s qs ds) : Reps R s (ps ++ qs) (cs ++ ds) := by
  refine ⟨by rw [List.length_append, List.length_append, h.1, g.1, Nat.add_mul], fun j p hj => ?_⟩
  by_cases c : j < ps.length
  · rw [List.getElem?_append_left c] at hj
    have hm := Nat.mul_le_mul_right s (show j + 1 ≤ ps.length from c)
    rw [Nat.add_mul, Nat.one_mul, ← h.1] at hm
    rw [List.drop_append_of_le_length (by omega), List.take_append_of_le_length (by rw [List.length_drop]; omega)]
    exact h.2 j p hj
  · rw [List.getElem?_append_right (by omega)] at hj
    have e : (cs ++ ds).drop (j * s) = ds.drop ((j - ps.length) * s) := by
      have hm := Nat.mul_le_mul_right s (show ps.length ≤ j by omega)
      rw [List.drop_append, List.drop_of_length_le (by rw [h.1]; exact hm), List.nil_append, h.1, Nat.sub_mul]
    rw [e]
    exact g.2 _ p hj
theorem qGh {α : Type} {R : α → List Value → Prop} {s : Nat} {ps : List α} {cs : List Value} (h : Reps R s ps cs) (i : Nat) (hi : i ≤ ps.length) : Reps R s (ps.take i) (cs.take (i * s)) := by
  have hm := Nat.mul_le_mul_right s hi
  refine ⟨by rw [List.length_take, List.length_take, h.1, Nat.min_eq_left hm, Nat.min_eq_left hi], fun j p hj => ?_⟩
  rw [List.getElem?_take] at hj
  split at hj
  · rename_i c
    have hm2 := Nat.mul_le_mul_right s (show j + 1 ≤ i from c)
    rw [Nat.add_mul, Nat.one_mul] at hm2
    rw [List.drop_take, List.take_take, Nat.min_eq_left (by omega)]
    exact h.2 j p hj
  · cases hj
theorem qGi {α : Type} {R : α → List Value → Prop} {s : Nat} {ps : List α} {cs : List Value} (h : Reps R s ps cs) (i : Nat) : Reps R s (ps.drop i) (cs.drop (i * s)) := by
  refine ⟨by rw [List.length_drop, List.length_drop, h.1, Nat.sub_mul], fun j p hj => ?_⟩
  rw [List.getElem?_drop] at hj
  rw [List.drop_drop, ← Nat.add_mul]
  exact h.2 _ p hj
theorem qHa {α : Type} {R : α → List Value → Prop} {s : Nat} {p : α} {c : List Value} (hp : R p c) (hc : c.length = s) : Reps R s [p] c := by
  refine ⟨by rw [hc]; simp, fun j q hj => ?_⟩
  cases j with
  | zero => cases hj; rw [Nat.zero_mul, List.drop_zero, List.take_of_length_le (by omega)]; exact hp
  | succ j => simp at hj
theorem qB8 {α : Type} {R : α → List Value → Prop} {s : Nat} {ps : List α} {cs c : List Value} {p : α} (h : Reps R s ps cs) (i : Nat) (hi : i ≤ ps.length) (hp : R p c) (hc : c.length = s) :
    Reps R s (ps.take i ++ p :: ps.drop i) (cs.take (i * s) ++ (c ++ cs.drop (i * s))) :=
  reps_append (qGh h i hi) (reps_append (qHa hp hc) (qGi h i))
theorem qCe {α : Type} {d : Kd α} {w : World} {xs : List α} {cs : List Value} (hz : 0 < d.sz) (hr : Reps (d.K w) d.sz xs cs) : ∀ u ∈ cs, u.oneCell' = true := by
  intro u hu
  obtain ⟨j, hj, rfl⟩ := List.mem_iff_getElem.1 hu
  have hl := hr.1
  have hq : j / d.sz < xs.length := by
    rw [Nat.div_lt_iff_lt_mul hz]; omega
  have hK := hr.2 (j / d.sz) _ (List.getElem?_eq_getElem hq)
  refine d.K_one hK _ ?_
  have hm : j / d.sz * d.sz + j % d.sz = j := Nat.div_add_mod' j d.sz
  have hlt := Nat.mod_lt j hz
  refine List.mem_iff_getElem?.2 ⟨j % d.sz, ?_⟩
  rw [List.getElem?_take_of_lt hlt, List.getElem?_drop, hm, List.getElem?_eq_getElem hj]
theorem below_grown' {w0 w w1 : World} {r : Option Nat} (h : Below w0.heap.size w0 w) (hg : w.grownBy w1 r) (hc : ∀ k, r = some k → w0.heap.size ≤ k) : Below w0.heap.size w0 w1 :=
  ⟨hg.os.trans h.os, hg.tape.trans h.tape, hg.output.trans h.output, by have := h.size; have := hg.size; omega, fun k hk => (hg.block k (by have := h.size; omega) (fun e => by have := hc k e.symm; omega)).trans (h.block k hk)⟩
theorem qF3 {w0 w w1 : World} {r : Option Nat} (hb : Below w0.heap.size w0 w) (hg : w.grownBy w1 r) : w0.grownBy w1 r := qBv (qBa hb r) hg
theorem qEm {w : World} {b1 b2 z1 z2 n1 n2 e1 e2 : Nat} {v1 v2 : Value} {xs1 xs2 : List Value} (h1 : w.ownsRow b1 e1 z1 v1 n1 xs1) (h2 : w.ownsRow b2 e2 z2 v2 n2 xs2) (hne : e1 ≠ e2) : ∀ g, v1.ownBlock = some g → v2.ownBlock = some g → False := by
  intro g g1 g2
  obtain ⟨c1, t1⟩ := qDc h1 g g1
  obtain ⟨c2, t2⟩ := qDc h2 g g2
  rw [t1] at t2
  injection t2 with t2
  injection t2 with _ t2 _
  exact hne t2
theorem qCb {w : World} {base e size n c : Nat} {a : Option Addr} {xs : List Value} (h : w.ownsRow base e size (.slice a n c) n xs) : n ≤ c := by
  rcases h.2 with ⟨h1, h2⟩ | ⟨g, cap, cur, h1, _, _, h2, _⟩
  · cases h1; omega
  · cases h1; exact h2
theorem qFa (v : Value) (n i base vb tv : Nat) (xs ys : List Value) (w : World) (ho : w.ownsRow base 9 1 v n xs) (hi : i ≤ n) (hv : w.heap[vb]? = some (.cells ys.toArray tv (0, 0))) (hys : ys.length = 1) (hne : some vb ≠ v.ownBlock) (hbase : base ≤ w.heap.size) (hbig : (n + 1) * 16 ≤ 140737488355328) (h1x : ∀ u ∈ xs, u.oneCell' = true) (h1y : ∀ u ∈ ys, u.oneCell' = true) :
    Calls Tryd.prog 56 #[v, .int .i64 i, .slice (some ⟨vb, 0, none⟩) 1 1] w fun e w' => ∃ v', e = .returned v' ∧ w'.ownsRow base 9 1 v' (n + 1) (xs.take (i * 1) ++ (ys ++ xs.drop (i * 1))) ∧ w.grownBy w' v.ownBlock := by
  by_cases c : i < n
  · exact qE8 v n i base vb tv xs ys w ho c hv hys hne hbase hbig h1x h1y
  · have e : i = n := by omega
    subst e
    rw [List.take_of_length_le (by rw [ho.1]; omega), List.drop_of_length_le (by rw [ho.1]; omega), List.append_nil]
    exact qE9 v i base vb tv xs ys w ho hv hys hbase hbig h1y
theorem qE7 (v : Value) (n i base vb tv : Nat) (xs ys : List Value) (w : World) (ho : w.ownsRow base 25 6 v n xs) (hi : i ≤ n) (hv : w.heap[vb]? = some (.cells ys.toArray tv (0, 0))) (hys : ys.length = 6) (hne : some vb ≠ v.ownBlock) (hbase : base ≤ w.heap.size) (hbig : (n + 1) * 88 ≤ 140737488355328) (h1x : ∀ u ∈ xs, u.oneCell' = true) (h1y : ∀ u ∈ ys, u.oneCell' = true) :
    Calls Tryd.prog 57 #[v, .int .i64 i, .slice (some ⟨vb, 0, none⟩) 1 1] w fun e w' => ∃ v', e = .returned v' ∧ w'.ownsRow base 25 6 v' (n + 1) (xs.take (i * 6) ++ (ys ++ xs.drop (i * 6))) ∧ w.grownBy w' v.ownBlock := by
  by_cases c : i < n
  · exact qE5 v n i base vb tv xs ys w ho c hv hys hne hbase hbig h1x h1y
  · have e : i = n := by omega
    subst e
    rw [List.take_of_length_le (by rw [ho.1]; omega), List.drop_of_length_le (by rw [ho.1]; omega), List.append_nil]
    exact qE6 v i base vb tv xs ys w ho hv hys hbase hbig h1y
def ofL (k : Nat) : List ByteArray → List S25 → List ByteArray → List S25 → Option (List ByteArray × List S25)
  | key :: ks, v :: vs, K, V => (slices_BinarySearch_string_string.f k K key).bind fun q => if q.2 = true then ofL k ks vs K V else if 0 ≤ q.1 ∧ q.1 ≤ (K.length : Int) then ofL k ks vs (K.take q.1.toNat ++ key :: K.drop q.1.toNat) (V.take q.1.toNat ++ v :: V.drop q.1.toNat) else none
  | _, _, K, V => some (K, V)
def ofR (K : List ByteArray) (V : List S25) : Int × Bool × Int × ByteArray × List S25 × List ByteArray :=
  if (mayV 16 ⟨5, false, 0, ByteArray.empty, V, K⟩ 0).2 = true then (5, false, 0, ByteArray.empty, V, K) else (0, false, 0, ByteArray.empty, [], [])
def value_Of.f (k : Nat) (l0 : List ByteArray) (l1 : List S25) : Option (Int × Bool × Int × ByteArray × List S25 × List ByteArray) :=
  if l0.length ≤ 100000 then (ofL k l0 l1 [] []).map fun q => ofR q.1 q.2 else none
theorem qD4 (k : Nat) : ∀ ks vs K V, LeO (ofL k ks vs K V) (ofL (k + 1) ks vs K V)
  | key :: ks, v :: vs, K, V => by
    unfold ofL
    exact LeO.bind (slices_BinarySearch_string_string.mono _ _ _) (fun _ => LeO.ite (qD4 k ks vs K V) (LeO.ite (qD4 k ks vs _ _) (LeO.refl _)))
  | [], vs, K, V => by cases vs <;> exact LeO.refl _
  | _ :: _, [], K, V => LeO.refl _
theorem value_Of.mono : ∀ a0 a1 k, LeO (value_Of.f k a0 a1) (value_Of.f (k + 1) a0 a1) := by
  intro a0 a1 k
  unfold value_Of.f
  refine LeO.ite ?_ (LeO.refl _)
  intro r h
  obtain ⟨q, hq, rfl⟩ := Option.map_eq_some_iff.1 h
  rw [qD4 k _ _ _ _ q hq]
  rfl
end Go.Proofs.YtbnoihpooeombaaDoor.X

namespace Go.Proofs.YtbnoihpooeombaaDoor.X
open Go.RowKit Go.Proofs.YtbnoihpooeombaaDoorW.PrintWords Go.Proofs.YtbnoihpooeombaaDoorW.PrintLast Go.Proofs.YtbnoihpooeombaaDoorW.PrintMore Go.Proofs.YtbnoihpooeombaaDoor.P
set_option linter.unusedVariables false
set_option linter.unusedSimpArgs false
theorem qHe (k : Nat) (vs V : List S25) (K : List ByteArray) : ofL k [] vs K V = some (K, V) := by cases vs <;> simp [ofL]
theorem qHd (k : Nat) (ks K : List ByteArray) (V : List S25) : ofL k ks [] K V = some (K, V) := by cases ks <;> simp [ofL]
attribute [local go_sem] qAx
set_option maxHeartbeats 4000000 in
set_option maxRecDepth 100000 in
theorem value_Of.calls (k : Nat) (A0 : Option Addr) (c0 : Nat) (l0 : List ByteArray) (A1 : Option Addr) (c1 : Nat) (l1 : List S25) (r1 : Int) (r2 : Bool) (r3 : Int) (r4 : ByteArray) (r5 : List S25) (r6 : List ByteArray) (w : World)
    (hr0 : Kd.C Kd.string w A0 l0.length l0) (hc0 : l0.length ≤ c0) (hr1 : Kd.C k25 w A1 l1.length l1) (hc1 : l1.length ≤ c1)
    (h : value_Of.f k l0 l1 = some (r1, r2, r3, r4, r5, r6)) :
    Calls Tryd.prog 30 #[.slice A0 l0.length c0, .slice A1 l1.length c1] w fun e w' =>
      ∃ v4 v5 : Value, e = .returned (.agg #[.int .i64 r1, .bool r2, .int .i64 r3, .string r4, v4, v5]) ∧ k25.R 25 w' w.heap.size (fun k_ => some k_ ≠ (v5 : Value).ownBlock) v4 r5 ∧ Kd.string.R 9 w' w.heap.size (fun _ => True) v5 r6 ∧ Below w.heap.size w w' := by
  have X0 := Aside0.mk hr0
  have X1 := Aside0.mk hr1
  have hm0 : l0.length ≤ 9223372036854775807 := hr0.2.1
  have hm1 : l1.length ≤ 9223372036854775807 := hr1.2.1
  obtain ⟨hl, h⟩ : l0.length ≤ 100000 ∧ ((ofL k l0 l1 [] []).map fun q => ofR q.1 q.2) = some (r1, r2, r3, r4, r5, r6) := by
    unfold value_Of.f at h
    split at h
    · rename_i hl; exact ⟨hl, h⟩
    · cases h
  have H := Aside0.mk h
  clear hr0 hr1 h
  obtain ⟨m, hmn, hm2, hm3, hm4⟩ : ∃ m : Nat, Builtin.min2 (.int .i64 (l0.length : Int)) (.int .i64 (l1.length : Int)) = pure (.int .i64 (m : Int)) ∧ m ≤ l0.length ∧ m ≤ l1.length ∧ (m = l0.length ∨ m = l1.length) := by
    by_cases c : (l1.length : Int) < (l0.length : Int)
    · exact ⟨l1.length, by rw [qAr, if_pos c], by omega, by omega, .inr rfl⟩
    · exact ⟨l0.length, by rw [qAr, if_neg c], by omega, by omega, .inl rfl⟩
  have HM := Aside0.mk hm4
  clear hm4
  have HB0 := Aside0.mk (qAd (qAd (Below.refl w.heap.size w) (.cells #[.int .i64 0, .bool false, .int .i64 0, .string ⟨#[]⟩, .slice none 0 0, .slice none 0 0] 25)) (.cells #[.int .i64 5, .bool false, .int .i64 0, .string ⟨#[]⟩, .slice none 0 0, .slice none 0 0] 25))
  have HT := Aside0.mk (qCn w #[.int .i64 0, .bool false, .int .i64 0, .string ⟨#[]⟩, .slice none 0 0, .slice none 0 0] #[.int .i64 5, .bool false, .int .i64 0, .string ⟨#[]⟩, .slice none 0 0, .slice none 0 0] 25 25)
  go_enter Tryd.func30, Tryd.ntmps30
  go_wp2_with fail
  generalize (w.alloc (.cells #[.int .i64 0, .bool false, .int .i64 0, .string ⟨#[]⟩, .slice none 0 0, .slice none 0 0] 25)).alloc (.cells #[.int .i64 5, .bool false, .int .i64 0, .string ⟨#[]⟩, .slice none 0 0, .slice none 0 0] 25) = W0 at *
  have hw0 : w.heap.size + 2 ≤ W0.heap.size := by have := blk_lt HT.out.2; omega
  clear hmn
  go_loopw [19] (fun v19 wr => ∃ (i : Nat) (K : List ByteArray) (V : List S25) (s4 s5 : Value) (n4 n5 : List Value), v19 = .int .i64 i ∧ i ≤ m ∧ Aside0 (V.length = K.length) ∧ K.length ≤ i ∧ Aside0 (Below w.heap.size w wr) ∧ w.heap.size + 2 ≤ wr.heap.size ∧ Aside0 (wr.heap[w.heap.size]? = some (.cells #[.int .i64 0, .bool false, .int .i64 0, .string ⟨#[]⟩, .slice none 0 0, .slice none 0 0] 25 (0, 0))) ∧ Aside0 (wr.heap[w.heap.size + 1]? = some (.cells #[.int .i64 5, .bool false, .int .i64 0, .string ⟨#[]⟩, s4, s5] 25 (0, 0))) ∧ Aside0 (wr.ownsRow (w.heap.size + 2) 25 6 s4 K.length n4) ∧ Aside0 (wr.ownsRow (w.heap.size + 2) 9 1 s5 K.length n5) ∧ Aside0 (Reps (k25.K w) 6 V n4) ∧ Aside0 (Reps (Kd.string.K w) 1 K n5) ∧ Aside0 ((ofL k (l0.drop i) (l1.drop i) K V).map (fun q => ofR q.1 q.2) = some (r1, r2, r3, r4, r5, r6))) (fun v _ => m - (intOf v).toNat)
  case atStart => exact ⟨0, [], [], .slice none 0 0, .slice none 0 0, [], [], rfl, by omega, ⟨rfl⟩, by simp, HB0, hw0, ⟨HT.out.1⟩, ⟨HT.out.2⟩, ⟨⟨rfl, .inl ⟨rfl, rfl⟩⟩⟩, ⟨⟨rfl, .inl ⟨rfl, rfl⟩⟩⟩, ⟨Reps.none _ _⟩, ⟨Reps.none _ _⟩, ⟨H.out⟩⟩
  case round =>
    clear HT HB0 H
    obtain ⟨i, K, V, s4, s5, n4, n5, rfl, hi, hKV, hKi, HB, hws, HZ, HO, O4, O5, R4, R5, H⟩ := hrel
    by_cases hlt : i < m
    · have hcond : (i : Int) < (m : Int) := by omega
      obtain ⟨ad, rfl, hkey⟩ := Kd.at_string (Kd.C_below X0.out HB.out) (i : Int) (by omega) (by omega)
      simp only [Int.toNat_natCast] at hkey
      have HK := Aside0.mk (show rdOf ByteArray.empty l0 (i : Int) = l0[i] from by simp [rdOf, List.getD_eq_getElem?_getD, show i < l0.length by omega])
      obtain ⟨a5, b5, hrd5⟩ := qA4 O5.out (R5.out.imp_ (fun p c h => Kd.string.K_below HB.out h)) rfl
      obtain ⟨rfl, hC5⟩ := hrd5
      obtain ⟨a4, b4, rfl⟩ := qBq O4.out
      generalize rdOf ByteArray.empty l0 (i : Int) = key at *
      obtain ⟨y0, y1, y2, y3, y4, y5⟩ := qAq HO.out
      have hOf := fun k => qAa HO.out k
      have hcap := qCb O5.out
      have h := H.out
      clear H
      rw [List.drop_eq_getElem_cons (show i < l0.length by omega), List.drop_eq_getElem_cons (show i < l1.length by omega), ← HK.out] at h
      rw [ofL] at h
      obtain ⟨q, hq, h⟩ := Option.map_eq_some_iff.1 h
      obtain ⟨⟨q1, q2⟩, hqq, hq⟩ := Option.bind_eq_some_iff.1 hq
      have HQ := Aside0.mk hqq
      have HR := Aside0.mk h
      clear h hqq
      go_wp2_with fail
      refine (slices_BinarySearch_string_string.calls k a5 b5 K key q1 q2 wr hC5 hcap HQ.out).mono ?_
      rintro e w3 ⟨rfl, hd3⟩
      have hb3 := hd3.below
      clear hd3 hC5 HQ hOf y0 y1 y2 y3 y4 y5 hkey
      have HB3 := Aside0.mk (qAj HB.out hb3)
      have HZ3 := Aside0.mk (qAm HZ.out hb3)
      have HO3 := Aside0.mk (qAm HO.out hb3)
      have P4 := Aside0.mk (qA2 O4.out hb3)
      have P5 := Aside0.mk (qA2 O5.out hb3)
      have hws3 := hb3.size
      clear hb3 HB HZ HO O4 O5
      obtain ⟨y0, y1, y2, y3, y4, y5⟩ := qAq HO3.out
      have hOf := fun k => qAa HO3.out k
      cases q2 with
      | true =>
        simp only [if_true, reduceIte] at hq
        go_wp2_with fail
        go_roundw
        case rel => exact ⟨i + 1, K, V, _, _, n4, n5, by go_num, by omega, hKV, by omega, HB3, by omega, HZ3, HO3, P4, P5, R4, R5, ⟨Option.map_eq_some_iff.2 ⟨q, hq, HR.out⟩⟩⟩
        case measure => simp [intOf]; omega
      | false =>
        simp only [Bool.false_eq_true, if_false, reduceIte] at hq
        by_cases hr : 0 ≤ q1 ∧ q1 ≤ (K.length : Int)
        · rw [if_pos hr] at hq
          obtain ⟨j, rfl⟩ : ∃ j : Nat, q1 = (j : Int) := ⟨q1.toNat, by omega⟩
          have hj : j ≤ K.length := by omega
          clear hr
          simp only [Int.toNat_natCast] at hq
          have HQ := Aside0.mk hq
          clear hq
          go_wp2_with fail
          have hl5 := own_lt P5.out
          refine (qFa (.slice a5 K.length b5) K.length j (w.heap.size + 2) w3.heap.size 9 n5 [.string key] _ (qA2 P5.out (qAd (Below.refl w3.heap.size w3) _)) hj (qA9 w3 _) rfl (fun e => by have := hl5 _ e.symm; omega) (by have := (qAd (Below.refl w3.heap.size w3) (.cells #[Value.string key] 9)).size; omega) (by omega) (qCe (d := Kd.string) (by decide) R5.out) (by intro u hu; rw [List.mem_singleton] at hu; subst hu; rfl)).mono ?_
          rintro e w4 ⟨s5', rfl, ho5, hg⟩
          obtain ⟨a5', b5', rfl⟩ := qBq ho5
          have HB4 := Aside0.mk (below_grown' (qAd HB3.out (.cells #[Value.string key] 9)) hg (fun k hk => by have := qA1 P5.out k hk; omega))
          have hkeep : ∀ k, k < w3.heap.size → some k ≠ (Value.slice a5 K.length b5).ownBlock → w4.heap[k]? = w3.heap[k]? := fun k hk hne => (hg.block k (by have := (qAd (Below.refl w3.heap.size w3) (.cells #[Value.string key] 9)).size; omega) hne).trans ((qAd (Below.refl w3.heap.size w3) _).block k hk)
          have HZ4 := Aside0.mk ((hkeep w.heap.size (by omega) (fun e => by have := qA1 P5.out _ e.symm; omega)).trans HZ3.out)
          have HO4 := Aside0.mk ((hkeep (w.heap.size + 1) (by omega) (fun e => by have := qA1 P5.out _ e.symm; omega)).trans HO3.out)
          have Q4 := Aside0.mk (qBk P4.out (fun k hk => hkeep k (own_lt P4.out k hk) (fun e => qEm P4.out P5.out (by decide) k hk e.symm)))
          have Q5 := Aside0.mk ho5
          have hws4 := hg.size
          have hws3' := (qAd (Below.refl w3.heap.size w3) (.cells #[Value.string key] 9)).size
          clear hkeep hg ho5 HB3 HZ3 HO3 P4 P5 hl5 hOf y0 y1 y2 y3 y4 y5
          obtain ⟨y0, y1, y2, y3, y4, y5⟩ := qAq HO4.out
          have hOf := fun k => qAa HO4.out k
          go_wp2_with fail
          have HB5 := Aside0.mk (qAf (v := .slice a5' (K.length + 1) b5') (j := 5) HB4.out (show w.heap.size ≤ w.heap.size + 1 by omega))
          have HZ5 := Aside0.mk ((qAu (w := w4) (g := w.heap.size + 1) (k := w.heap.size) (j := 5) (v := .slice a5' (K.length + 1) b5') (by omega)).trans HZ4.out)
          have HO5 := Aside0.mk (blk_set (j := 5) (v := .slice a5' (K.length + 1) b5') HO4.out)
          have T4 := Aside0.mk (qBy (g := w.heap.size + 1) (j := 5) (u := .slice a5' (K.length + 1) b5') Q4.out (by omega))
          have T5 := Aside0.mk (qBy (g := w.heap.size + 1) (j := 5) (u := .slice a5' (K.length + 1) b5') Q5.out (by omega))
          have HS5 := Aside0.mk (qCo w4 ⟨w.heap.size + 1, 5, none⟩ (.slice a5' (K.length + 1) b5'))
          clear hOf y0 y1 y2 y3 y4 y5 HB4 HZ4 HO4 Q4 Q5
          generalize w4.setCell ⟨w.heap.size + 1, 5, none⟩ (.slice a5' (K.length + 1) b5') = W5 at *
          have HO5 := Aside0.mk (show W5.heap[w.heap.size + 1]? = some (.cells #[.int .i64 5, .bool false, .int .i64 0, .string ⟨#[]⟩, .slice a4 K.length b4, .slice a5' (K.length + 1) b5'] 25 (0, 0)) from HO5.out)
          obtain ⟨ad1, B4, e4, B5, e5, rfl, z0, z1, z2, z3, z4, z5, g4l, g4, g5l, g5⟩ := at_T25 X1.out (i : Int) (by omega) (by omega)
          have HY : rd_T25 l1 (i : Int) = l1[i] := by simp [rd_T25, List.getD_eq_getElem?_getD, show i < l1.length by omega]
          rw [HY] at z0 z1 z2 z3 z4 z5 g4l g4 g5l g5
          clear HY
          simp only [Int.toNat_natCast] at z0 z1 z2 z3 z4 z5
          generalize l1[i] = y at *
          have HKY := Aside0.mk (show k25.K w y [.int .i64 y.f0, .bool y.f1, .int .i64 y.f2, .string y.f3, .slice B4 y.f4.length e4, .slice B5 y.f5.length e5] from k25_mk w y g4l g4 g5l g5)
          clear g4l g4 g5l g5
          replace z0 := qAh HB5.out z0
          replace z1 := qAh HB5.out z1
          replace z2 := qAh HB5.out z2
          replace z3 := qAh HB5.out z3
          replace z4 := qAh HB5.out z4
          replace z5 := qAh HB5.out z5
          obtain ⟨y0, y1, y2, y3, y4, y5⟩ := qAq HO5.out
          have hOf := fun k => qAa HO5.out k
          clear y0 y1 y2 y3 y5
          have hsW := Aside0.mk hws4
          have y4a : ∀ o, (W5.alloc o).cell? ⟨w.heap.size + 1, 4, none⟩ = some (.slice a4 K.length b4) := fun o => (qAb (blk_alloc' HO5.out o) 4).trans rfl
          go_region_with (go_at_call 57; refine (qE7 (.slice a4 K.length b4) K.length j (w.heap.size + 2) W5.heap.size 25 n4 [.int .i64 y.f0, .bool y.f1, .int .i64 y.f2, .string y.f3, .slice B4 y.f4.length e4, .slice B5 y.f5.length e5] _ (qA2 T4.out (by repeat (first | exact Below.refl _ _ | apply qAe | apply qAc | apply qAd))) hj (by first | exact qAm (qA9 W5 _) (by repeat (first | exact Below.refl _ _ | apply qAe | apply qAc | apply qAd)) | (have := qA9 (W5.drew) (.cells #[.int .i64 y.f0, .bool y.f1, .int .i64 y.f2, .string y.f3, .slice B4 y.f4.length e4, .slice B5 y.f5.length e5] 25); simpa using this)) rfl (fun e => by have := own_lt T4.out _ e.symm; omega) (by have hh := HS5.out; have hh2 := hsW.out; simp; omega) (by omega) (qCe (d := k25) (by decide) R4.out) (k25.K_one HKY.out)).mono ?_; rintro e w6 ⟨s4', rfl, ho6, hg6⟩; obtain ⟨a4', b4', rfl⟩ := qBq ho6; have HG := Aside0.mk (qF3 (w0 := W5) (by repeat (first | exact Below.refl _ _ | apply qAe | apply qAc | apply qAd)) hg6); have Q4 := Aside0.mk ho6; clear hg6 ho6; have hs5' := HS5.out; have HB6 := Aside0.mk (below_grown' HB5.out HG.out (fun k hk => by have := qA1 T4.out k hk; omega)); have HZ6 := Aside0.mk ((HG.out.block w.heap.size (by omega) (fun e => by have := qA1 T4.out _ e.symm; omega)).trans HZ5.out); have HO6 := Aside0.mk ((HG.out.block (w.heap.size + 1) (by omega) (fun e => by have := qA1 T4.out _ e.symm; omega)).trans HO5.out); have Q5 := Aside0.mk (qBk T5.out (fun k hk => HG.out.block k (own_lt T5.out k hk) (fun e => qEm T4.out T5.out (by decide) k e.symm hk))); have hws6 := HG.out.size; obtain ⟨y0, y1, y2, y3, y4, y5⟩ := qAq HO6.out; have hOf := fun k => qAa HO6.out k)
          all_goals
            have HB7 := Aside0.mk (qAf (v := (.slice a4' (K.length + 1) b4')) (j := 4) HB6.out (show w.heap.size ≤ w.heap.size + 1 by omega))
            have HZ7 := Aside0.mk ((qAu (w := w6) (g := w.heap.size + 1) (k := w.heap.size) (j := 4) (v := (.slice a4' (K.length + 1) b4')) (by omega)).trans HZ6.out)
            have HO7 := Aside0.mk (blk_set (j := 4) (v := (.slice a4' (K.length + 1) b4')) HO6.out)
            have U4 := Aside0.mk (qBy (g := w.heap.size + 1) (j := 4) (u := (.slice a4' (K.length + 1) b4')) Q4.out (by omega))
            have U5 := Aside0.mk (qBy (g := w.heap.size + 1) (j := 4) (u := (.slice a4' (K.length + 1) b4')) Q5.out (by omega))
            have hsz7 := qCo w6 ⟨w.heap.size + 1, 4, none⟩ (.slice a4' (K.length + 1) b4')
            have hlk : (K.take j ++ key :: K.drop j).length = K.length + 1 := by simp; omega
            have hlv : (V.take j ++ y :: V.drop j).length = K.length + 1 := by have := hKV.out; simp; omega
            have N4 := Aside0.mk (qB8 R4.out j (by have := hKV.out; omega) HKY.out rfl)
            have N5 := Aside0.mk (qB8 (p := key) (c := [.string key]) R5.out j hj (by exact rfl) rfl)
            clear y0 y1 y2 y3 y4 y5 hOf y4a z0 z1 z2 z3 z4 z5 HB6 HZ6 HO6 Q4 Q5
            generalize w6.setCell ⟨w.heap.size + 1, 4, none⟩ (.slice a4' (K.length + 1) b4') = W7 at *
            go_wp2
            go_roundw
            case rel => exact ⟨i + 1, K.take j ++ key :: K.drop j, V.take j ++ y :: V.drop j, _, _, _, _, by go_num, by omega, ⟨by rw [hlk, hlv]⟩, by omega, HB7, by omega, HZ7, ⟨HO7.out⟩, by rw [hlk]; exact U4, by rw [hlk]; exact U5, N4, N5, ⟨Option.map_eq_some_iff.2 ⟨q, HQ.out, HR.out⟩⟩⟩
            case measure => simp [intOf]; omega
        · rw [if_neg hr] at hq
          cases hq
    · have him : i = m := by omega
      subst him
      have h := H.out
      clear H
      have hof : ofL k (l0.drop i) (l1.drop i) K V = some (K, V) := by
        rcases HM.out with e | e
        · rw [show l0.drop i = [] from List.drop_of_length_le (by omega)]; exact qHe _ _ _ _
        · rw [show l1.drop i = [] from List.drop_of_length_le (by omega)]; exact qHd _ _ _ _
      rw [hof, Option.map_some] at h
      replace h := Option.some.inj h
      unfold ofR at h
      have HSM := Aside0.mk (qBz 16 ⟨5, false, 0, ByteArray.empty, V, K⟩ 0 (by omega))
      have hm1 : value_May.f 5 false 0 ByteArray.empty V K = some (mayV 16 ⟨5, false, 0, ByteArray.empty, V, K⟩ 0).2 := rfl
      dsimp only at h
      generalize (mayV 16 ⟨5, false, 0, ByteArray.empty, V, K⟩ 0).2 = b1 at *
      have M1 := Aside0.mk hm1
      have HH := Aside0.mk h
      clear hm1 h hof
      have hcond : ¬ ((i : Int) < (i : Int)) := by omega
      have O4' := Aside0.mk (show wr.ownsRow (w.heap.size + 2) 25 6 s4 V.length n4 from by rw [hKV.out]; exact O4.out)
      obtain ⟨a5, b5, rfl, hC5⟩ := qA4 O5.out (R5.out.imp_ (fun p c h => Kd.string.K_below HB.out h)) rfl
      obtain ⟨a4, b4, rfl, hC4⟩ := qA4 O4'.out (R4.out.imp_ (fun p c h => k25.K_below HB.out h)) rfl
      have hcap5 := qCb O5.out
      have hcap4 := qCb O4'.out
      have HC4 : Aside0 (k25.C wr a4 V.length V) := ⟨hC4⟩
      have HC5 : Aside0 (Kd.string.C wr a5 K.length K) := ⟨hC5⟩
      clear hC4 hC5 O4 O4' O5 R4 R5
      obtain ⟨y0, y1, y2, y3, y4, y5⟩ := qAq HO.out
      go_wp2_with fail
      refine (value_May.calls 5 false 0 ByteArray.empty a4 b4 V a5 b5 K b1 wr HC4.out hcap4 HC5.out hcap5 M1.out).mono ?_
      rintro e w3 ⟨rfl, hb3⟩
      have HB3 := Aside0.mk (qAj HB.out hb3)
      have HZ3 := Aside0.mk (qAm HZ.out hb3)
      have HO3 := Aside0.mk (qAm HO.out hb3)
      have D4 := Aside0.mk (Kd.C_below HC4.out hb3)
      have D5 := Aside0.mk (Kd.C_below HC5.out hb3)
      clear hb3 y0 y1 y2 y3 y4 y5 HB HZ HO HC4 HC5 M1
      obtain ⟨y0, y1, y2, y3, y4, y5⟩ := qAq HO3.out
      obtain ⟨p0, p1, p2, p3, p4, p5⟩ := qAq HZ3.out
      have pf := fun k => qAa HZ3.out k
      cases b1 with
      | false =>
        have h := HH.out
        simp only [Bool.false_eq_true, if_false, reduceIte] at h
        cases h
        go_wp2_with fail
        have HF := Aside0.mk (qB6 (Value.int IntKind.i64 0) (Value.bool false) (Value.int IntKind.i64 0) (Value.string ⟨#[]⟩) (Value.slice none 0 0) (Value.slice none 0 0) HZ3.out)
        have HFB := Aside0.mk (qBf (g := w.heap.size) (Value.int IntKind.i64 0) (Value.bool false) (Value.int IntKind.i64 0) (Value.string ⟨#[]⟩) (Value.slice none 0 0) (Value.slice none 0 0) HB3.out (Nat.le_refl _) 0)
        have HFO := Aside0.mk (fun k (h : k ≠ w.heap.size) => qBx (w := w3) (g := w.heap.size) (k := k) (Value.int IntKind.i64 0) (Value.bool false) (Value.int IntKind.i64 0) (Value.string ⟨#[]⟩) (Value.slice none 0 0) (Value.slice none 0 0) 0 h)
        simp only [Nat.zero_add] at HFB HFO
        clear p0 p1 p2 p3 p4 p5 pf
        generalize (((((w3.setCell { block := w.heap.size, off := 0 } (Value.int IntKind.i64 0)).setCell { block := w.heap.size, off := 1 } (Value.bool false)).setCell { block := w.heap.size, off := 2 } (Value.int IntKind.i64 0)).setCell { block := w.heap.size, off := 3 } (Value.string ⟨#[]⟩)).setCell { block := w.heap.size, off := 4 } (Value.slice none 0 0)).setCell { block := w.heap.size, off := 5 } (Value.slice none 0 0) = WF at *
        obtain ⟨r0, r1, r2, r3, r4, r5⟩ := qAq HF.out
        refine bodyPost_ret (v := .agg #[(Value.int IntKind.i64 0), (Value.bool false), (Value.int IntKind.i64 0), (Value.string ⟨#[]⟩), (Value.slice none 0 0), (Value.slice none 0 0)]) (by simp [results, Tryd.results30, go_sem, r0, r1, r2, r3, r4, r5]) rfl ⟨_, _, rfl, Kd.R_nil _ _ _ _ _, Kd.R_nil _ _ _ _ _, HFB.out⟩
      | true =>
        have h := HH.out
        simp only [if_true, reduceIte] at h
        cases h
        have HSS := Aside0.mk (HSM.out rfl)
        clear HSM HH
        go_wp2_with fail
        have HOWN := qEl 16 ⟨5, false, 0, ⟨#[]⟩, r5, r6⟩ a4 b4 a5 b5 w3 HSS.out D4.out hcap4 D5.out hcap5
        dsimp only at HOWN
        refine HOWN.mono ?_
        clear HOWN
        rintro e w4 ⟨v4, v5, rfl, hv4, hv5, hb4⟩
        obtain ⟨s4, t4, rfl⟩ := Kd.R_slice hv4
        obtain ⟨s5, t5, rfl⟩ := Kd.R_slice hv5
        have HB4 := Aside0.mk (qAj HB3.out hb4)
        have HZ4 := Aside0.mk (qAm HZ3.out hb4)
        have V4 := Aside0.mk hv4
        have V5 := Aside0.mk hv5
        have hlt3 := blk_lt HZ3.out
        clear hb4 hv4 hv5 HZ3 HO3 y0 y1 y2 y3 y4 y5 p0 p1 p2 p3 p4 p5 pf D4 D5
        obtain ⟨p0, p1, p2, p3, p4, p5⟩ := qAq HZ4.out
        have pf := fun k => qAa HZ4.out k
        go_wp2_with fail
        have HF := Aside0.mk (qB6 (Value.int IntKind.i64 5) (Value.bool false) (Value.int IntKind.i64 0) (Value.string ⟨#[]⟩) (Value.slice s4 r5.length t4) (Value.slice s5 r6.length t5) HZ4.out)
        have HFB := Aside0.mk (qBf (g := w.heap.size) (Value.int IntKind.i64 5) (Value.bool false) (Value.int IntKind.i64 0) (Value.string ⟨#[]⟩) (Value.slice s4 r5.length t4) (Value.slice s5 r6.length t5) HB4.out (Nat.le_refl _) 0)
        have HFO := Aside0.mk (fun k (h : k ≠ w.heap.size) => qBx (w := w4) (g := w.heap.size) (k := k) (Value.int IntKind.i64 5) (Value.bool false) (Value.int IntKind.i64 0) (Value.string ⟨#[]⟩) (Value.slice s4 r5.length t4) (Value.slice s5 r6.length t5) 0 h)
        simp only [Nat.zero_add] at HFB HFO
        clear p0 p1 p2 p3 p4 p5 pf
        generalize (((((w4.setCell { block := w.heap.size, off := 0 } (Value.int IntKind.i64 5)).setCell { block := w.heap.size, off := 1 } (Value.bool false)).setCell { block := w.heap.size, off := 2 } (Value.int IntKind.i64 0)).setCell { block := w.heap.size, off := 3 } (Value.string ⟨#[]⟩)).setCell { block := w.heap.size, off := 4 } (Value.slice s4 r5.length t4)).setCell { block := w.heap.size, off := 5 } (Value.slice s5 r6.length t5) = WF at *
        obtain ⟨q0, q1, q2, q3, q4, q5⟩ := qAq HF.out
        have hbw := HB3.out.size
        refine bodyPost_ret (v := .agg #[(Value.int IntKind.i64 5), (Value.bool false), (Value.int IntKind.i64 0), (Value.string ⟨#[]⟩), (Value.slice s4 r5.length t4), (Value.slice s5 r6.length t5)]) (by simp [results, Tryd.results30, go_sem, q0, q1, q2, q3, q4, q5]) rfl ⟨_, _, rfl, (Kd.R_mono (Kd.R_move (Kd.R_lower (base' := w.heap.size) (Kd.R_mono (ok' := fun k => k ≠ w.heap.size ∧ some k ≠ (Value.slice s5 r6.length t5).ownBlock) (Kd.R_bound V4.out) (fun k hk => ⟨by have := hk.2.1; omega, hk.1⟩)) (by omega)) (fun k hk => HFO.out k hk.1)) (fun _ h_ => h_.2)), (Kd.R_mono (Kd.R_move (Kd.R_lower (base' := w.heap.size) (Kd.R_mono (ok' := fun k => k ≠ w.heap.size) (Kd.R_bound V5.out) (fun k hk => by have := hk.2.1; omega)) (by omega)) (fun k hk => HFO.out k hk)) (fun _ _ => trivial)), HFB.out⟩
end Go.Proofs.YtbnoihpooeombaaDoor.X

namespace Go.Proofs.YtbnoihpooeombaaDoor.P
open Go.Proofs.YtbnoihpooeombaaDoor.X
open Go.RowKit Go.Proofs.YtbnoihpooeombaaDoorW.PrintWords Go.Proofs.YtbnoihpooeombaaDoorW.PrintLast Go.Proofs.YtbnoihpooeombaaDoorW.PrintMore
attribute [local go_sem] qAr qAx
set_option linter.unusedVariables false
set_option linter.unusedSimpArgs false
def hogsheadlaw15_awake.f (k : Nat)  : Option (Bool) := (value_Of.f k (([(⟨#[98]⟩ : ByteArray), (⟨#[97]⟩ : ByteArray)] : List ByteArray)) (([(⟨2, false, 1, (⟨#[]⟩ : ByteArray), ([] : List (S25)), ([] : List ByteArray)⟩ : S25), (⟨1, true, 0, (⟨#[]⟩ : ByteArray), ([] : List (S25)), ([] : List ByteArray)⟩ : S25)] : List (S25)))).bind fun bt161 => ((value_Lay.f k bt161.1 bt161.2.1 bt161.2.2.1 bt161.2.2.2.1 bt161.2.2.2.2.1 bt161.2.2.2.2.2).bind fun bt172 => ((value_Get.f k bt161.1 bt161.2.1 bt161.2.2.1 bt161.2.2.2.1 bt161.2.2.2.2.1 bt161.2.2.2.2.2 (⟨#[98]⟩ : ByteArray)).bind fun bt174 => (if bt172.1.toList = ([123, 34, 97, 34, 58, 116, 114, 117, 101, 44, 34, 98, 34, 58, 49, 125] : List UInt8) then (if bt172.2 = 0 then (if bt174.2.2.1 = 1 then (if bt174.2.2.2.2.2.2 = true then ((value_May.f bt161.1 bt161.2.1 bt161.2.2.1 bt161.2.2.2.1 bt161.2.2.2.2.1 bt161.2.2.2.2.2).bind fun t186 => (if t186 = true then ((value_Same.f bt161.1 bt161.2.1 bt161.2.2.1 bt161.2.2.2.1 bt161.2.2.2.2.1 bt161.2.2.2.2.2 bt161.1 bt161.2.1 bt161.2.2.1 bt161.2.2.2.1 bt161.2.2.2.2.1 bt161.2.2.2.2.2).bind fun t187 => (some t187)) else (some false))) else (some false)) else (some false)) else (some false)) else (some false))))
theorem hogsheadlaw15_awake.mono : ∀ k, LeO (hogsheadlaw15_awake.f k ) (hogsheadlaw15_awake.f (k + 1) ) := by
 intro  k
 unfold hogsheadlaw15_awake.f
 repeat' first
   | (with_reducible exact value_Get.mono _ _ _ _ _ _ _ _)
   | (with_reducible exact value_Lay.mono _ _ _ _ _ _ _)
   | (with_reducible exact value_Of.mono _ _ _)
   | (with_reducible exact LeO.refl _)
   | (with_reducible exact LeO.none _)
   | (with_reducible refine LeO.ite ?_ ?_)
   | (with_reducible refine LeO.bind ?_ (fun _ => ?_))
   | exact value_Get.mono _ _ _ _ _ _ _ _
   | exact value_Lay.mono _ _ _ _ _ _ _
   | exact value_Of.mono _ _ _
   | exact LeO.none _
   | refine LeO.ite ?_ ?_
   | refine LeO.bind ?_ (fun _ => ?_)
set_option maxHeartbeats 8000000 in
set_option maxRecDepth 100000 in
theorem hogsheadlaw15_awake.calls_true (k : Nat)  (r : Bool) (w : World) (hT : Aside0 (Tabs w)) (h : hogsheadlaw15_awake.f k  = some r) (hr_ : Aside0 (r = true)) :
  Calls Tryd.prog 15 #[] w fun e w' => e = .returned (.bool r) ∧ Below w.heap.size w w' := by
 have hu25 := Tryd.underlying25
 have HB := Aside0.mk (Below.refl w.heap.size w)
 have H : ((value_Of.f k (([(⟨#[98]⟩ : ByteArray), (⟨#[97]⟩ : ByteArray)] : List ByteArray)) (([(⟨2, false, 1, (⟨#[]⟩ : ByteArray), ([] : List (S25)), ([] : List ByteArray)⟩ : S25), (⟨1, true, 0, (⟨#[]⟩ : ByteArray), ([] : List (S25)), ([] : List ByteArray)⟩ : S25)] : List (S25)))).bind fun bt161 => ((value_Lay.f k bt161.1 bt161.2.1 bt161.2.2.1 bt161.2.2.2.1 bt161.2.2.2.2.1 bt161.2.2.2.2.2).bind fun bt172 => ((value_Get.f k bt161.1 bt161.2.1 bt161.2.2.1 bt161.2.2.2.1 bt161.2.2.2.2.1 bt161.2.2.2.2.2 (⟨#[98]⟩ : ByteArray)).bind fun bt174 => (if bt172.1.toList = ([123, 34, 97, 34, 58, 116, 114, 117, 101, 44, 34, 98, 34, 58, 49, 125] : List UInt8) then (if bt172.2 = 0 then (if bt174.2.2.1 = 1 then (if bt174.2.2.2.2.2.2 = true then ((value_May.f bt161.1 bt161.2.1 bt161.2.2.1 bt161.2.2.2.1 bt161.2.2.2.2.1 bt161.2.2.2.2.2).bind fun t186 => (if t186 = true then ((value_Same.f bt161.1 bt161.2.1 bt161.2.2.1 bt161.2.2.2.1 bt161.2.2.2.2.1 bt161.2.2.2.2.2 bt161.1 bt161.2.1 bt161.2.2.1 bt161.2.2.2.1 bt161.2.2.2.2.1 bt161.2.2.2.2.2).bind fun t187 => (some t187)) else (some false))) else (some false)) else (some false)) else (some false)) else (some false))))) = some r := h
 clear h
 obtain ⟨y155, hy155⟩ : ∃ y_ : List ByteArray, y_ = (([(⟨#[98]⟩ : ByteArray), (⟨#[97]⟩ : ByteArray)] : List ByteArray)) := ⟨_, rfl⟩
 replace H : ((value_Of.f k y155 (([(⟨2, false, 1, (⟨#[]⟩ : ByteArray), ([] : List (S25)), ([] : List ByteArray)⟩ : S25), (⟨1, true, 0, (⟨#[]⟩ : ByteArray), ([] : List (S25)), ([] : List ByteArray)⟩ : S25)] : List (S25)))).bind fun bt161 => ((value_Lay.f k bt161.1 bt161.2.1 bt161.2.2.1 bt161.2.2.2.1 bt161.2.2.2.2.1 bt161.2.2.2.2.2).bind fun bt172 => ((value_Get.f k bt161.1 bt161.2.1 bt161.2.2.1 bt161.2.2.2.1 bt161.2.2.2.2.1 bt161.2.2.2.2.2 (⟨#[98]⟩ : ByteArray)).bind fun bt174 => (if bt172.1.toList = ([123, 34, 97, 34, 58, 116, 114, 117, 101, 44, 34, 98, 34, 58, 49, 125] : List UInt8) then (if bt172.2 = 0 then (if bt174.2.2.1 = 1 then (if bt174.2.2.2.2.2.2 = true then ((value_May.f bt161.1 bt161.2.1 bt161.2.2.1 bt161.2.2.2.1 bt161.2.2.2.2.1 bt161.2.2.2.2.2).bind fun t186 => (if t186 = true then ((value_Same.f bt161.1 bt161.2.1 bt161.2.2.1 bt161.2.2.2.1 bt161.2.2.2.2.1 bt161.2.2.2.2.2 bt161.1 bt161.2.1 bt161.2.2.1 bt161.2.2.2.1 bt161.2.2.2.2.1 bt161.2.2.2.2.2).bind fun t187 => (some t187)) else (some false))) else (some false)) else (some false)) else (some false)) else (some false))))) = some r := by first | (rw [hy155]; with_reducible exact H) | (have H2_ := (Option.bind_some _ _).symm.trans H; rw [hy155]; with_reducible exact H2_) | (have H2_ := (Option.bind_some _ _).symm.trans H; with_reducible exact H2_) | with_reducible exact H | (rw [hy155]; exact H) | exact H
 have Ny155 := Aside0.mk hy155
 clear hy155
 obtain ⟨y158, hy158⟩ : ∃ y_ : List (S25), y_ = (([(⟨2, false, 1, (⟨#[]⟩ : ByteArray), ([] : List (S25)), ([] : List ByteArray)⟩ : S25), (⟨1, true, 0, (⟨#[]⟩ : ByteArray), ([] : List (S25)), ([] : List ByteArray)⟩ : S25)] : List (S25))) := ⟨_, rfl⟩
 replace H : ((value_Of.f k y155 y158).bind fun bt161 => ((value_Lay.f k bt161.1 bt161.2.1 bt161.2.2.1 bt161.2.2.2.1 bt161.2.2.2.2.1 bt161.2.2.2.2.2).bind fun bt172 => ((value_Get.f k bt161.1 bt161.2.1 bt161.2.2.1 bt161.2.2.2.1 bt161.2.2.2.2.1 bt161.2.2.2.2.2 (⟨#[98]⟩ : ByteArray)).bind fun bt174 => (if bt172.1.toList = ([123, 34, 97, 34, 58, 116, 114, 117, 101, 44, 34, 98, 34, 58, 49, 125] : List UInt8) then (if bt172.2 = 0 then (if bt174.2.2.1 = 1 then (if bt174.2.2.2.2.2.2 = true then ((value_May.f bt161.1 bt161.2.1 bt161.2.2.1 bt161.2.2.2.1 bt161.2.2.2.2.1 bt161.2.2.2.2.2).bind fun t186 => (if t186 = true then ((value_Same.f bt161.1 bt161.2.1 bt161.2.2.1 bt161.2.2.2.1 bt161.2.2.2.2.1 bt161.2.2.2.2.2 bt161.1 bt161.2.1 bt161.2.2.1 bt161.2.2.2.1 bt161.2.2.2.2.1 bt161.2.2.2.2.2).bind fun t187 => (some t187)) else (some false))) else (some false)) else (some false)) else (some false)) else (some false))))) = some r := by first | (rw [hy158]; with_reducible exact H) | (have H2_ := (Option.bind_some _ _).symm.trans H; rw [hy158]; with_reducible exact H2_) | (have H2_ := (Option.bind_some _ _).symm.trans H; with_reducible exact H2_) | with_reducible exact H | (rw [hy158]; exact H) | exact H
 have Ny158 := Aside0.mk hy158
 clear hy158
 replace H := Option.bind_eq_some_iff.mp H
 obtain ⟨⟨t161, t162, t163, t164, t165, t168⟩, A10, H⟩ := H
 replace H : ((value_Lay.f k t161 t162 t163 t164 t165 t168).bind fun bt172 => ((value_Get.f k t161 t162 t163 t164 t165 t168 (⟨#[98]⟩ : ByteArray)).bind fun bt174 => (if bt172.1.toList = ([123, 34, 97, 34, 58, 116, 114, 117, 101, 44, 34, 98, 34, 58, 49, 125] : List UInt8) then (if bt172.2 = 0 then (if bt174.2.2.1 = 1 then (if bt174.2.2.2.2.2.2 = true then ((value_May.f t161 t162 t163 t164 t165 t168).bind fun t186 => (if t186 = true then ((value_Same.f t161 t162 t163 t164 t165 t168 t161 t162 t163 t164 t165 t168).bind fun t187 => (some t187)) else (some false))) else (some false)) else (some false)) else (some false)) else (some false)))) = some r := H
 have A1 := Aside0.mk A10
 clear A10
 replace H := Option.bind_eq_some_iff.mp H
 obtain ⟨⟨t172, t173⟩, A20, H⟩ := H
 replace H : ((value_Get.f k t161 t162 t163 t164 t165 t168 (⟨#[98]⟩ : ByteArray)).bind fun bt174 => (if t172.toList = ([123, 34, 97, 34, 58, 116, 114, 117, 101, 44, 34, 98, 34, 58, 49, 125] : List UInt8) then (if t173 = 0 then (if bt174.2.2.1 = 1 then (if bt174.2.2.2.2.2.2 = true then ((value_May.f t161 t162 t163 t164 t165 t168).bind fun t186 => (if t186 = true then ((value_Same.f t161 t162 t163 t164 t165 t168 t161 t162 t163 t164 t165 t168).bind fun t187 => (some t187)) else (some false))) else (some false)) else (some false)) else (some false)) else (some false))) = some r := H
 have A2 := Aside0.mk A20
 clear A20
 replace H := Option.bind_eq_some_iff.mp H
 obtain ⟨⟨t174, t175, t176, t177, t178, t181, t184⟩, A30, H⟩ := H
 replace H : (if t172.toList = ([123, 34, 97, 34, 58, 116, 114, 117, 101, 44, 34, 98, 34, 58, 49, 125] : List UInt8) then (if t173 = 0 then (if t176 = 1 then (if t184 = true then ((value_May.f t161 t162 t163 t164 t165 t168).bind fun t186 => (if t186 = true then ((value_Same.f t161 t162 t163 t164 t165 t168 t161 t162 t163 t164 t165 t168).bind fun t187 => (some t187)) else (some false))) else (some false)) else (some false)) else (some false)) else (some false)) = some r := H
 have A3 := Aside0.mk A30
 clear A30
 by_cases c4 : t172.toList = ([123, 34, 97, 34, 58, 116, 114, 117, 101, 44, 34, 98, 34, 58, 49, 125] : List UInt8)
 ·rw [if_pos c4] at H
  have c4b0 : (t172.toList == ([123, 34, 97, 34, 58, 116, 114, 117, 101, 44, 34, 98, 34, 58, 49, 125] : List UInt8)) = true := beq_iff_eq.mpr c4
  have c4b1 : (t172.toList != ([123, 34, 97, 34, 58, 116, 114, 117, 101, 44, 34, 98, 34, 58, 49, 125] : List UInt8)) = false := bne_eq_false_iff_eq.mpr c4
  clear c4
  by_cases c5 : t173 = 0
  ·rw [if_pos c5] at H
   have c5b0 : (t173 == 0) = true := beq_iff_eq.mpr c5
   have c5b1 : (t173 != 0) = false := bne_eq_false_iff_eq.mpr c5
   clear c5
   by_cases c6 : t176 = 1
   ·rw [if_pos c6] at H
    have c6b0 : (t176 == 1) = true := beq_iff_eq.mpr c6
    have c6b1 : (t176 != 1) = false := bne_eq_false_iff_eq.mpr c6
    clear c6
    by_cases c7 : t184 = true
    ·subst c7
     have H1 : ((value_May.f t161 t162 t163 t164 t165 t168).bind fun t186 => (if t186 = true then ((value_Same.f t161 t162 t163 t164 t165 t168 t161 t162 t163 t164 t165 t168).bind fun t187 => (some t187)) else (some false))) = some r := by rw [if_pos rfl] at H; exact H
     clear H
     have H := H1
     clear H1
     replace H := Option.bind_eq_some_iff.mp H
     obtain ⟨t186, A80, H⟩ := H
     replace H : (if t186 = true then ((value_Same.f t161 t162 t163 t164 t165 t168 t161 t162 t163 t164 t165 t168).bind fun t187 => (some t187)) else (some false)) = some r := H
     have A8 := Aside0.mk A80
     clear A80
     by_cases c9 : t186 = true
     ·subst c9
      have H1 : ((value_Same.f t161 t162 t163 t164 t165 t168 t161 t162 t163 t164 t165 t168).bind fun t187 => (some t187)) = some r := by rw [if_pos rfl] at H; exact H
      clear H
      have H := H1
      clear H1
      replace H := Option.bind_eq_some_iff.mp H
      obtain ⟨t187, A100, H⟩ := H
      replace H : (some t187) = some r := H
      have A10 := Aside0.mk A100
      clear A100
      obtain rfl := Option.some.inj H
      go_enter Tryd.func15, Tryd.ntmps15
      go_wp2_with (first | ((with_reducible refine qAy (N := 6) rfl ?_); refine Kd.R_lit Kd.string _ 9 ?hg (N := 6) ?hd (xs := ([(⟨#[98]⟩ : ByteArray), (⟨#[97]⟩ : ByteArray)] : List ByteArray)) (inner := [.string (⟨#[98]⟩ : ByteArray), .string (⟨#[97]⟩ : ByteArray)]) (ok := fun _ => True) (okp := fun _ => True) ?hr ?hp (fun _ hk => hk) trivial (Below.refl _ _) (Nat.le_refl _) (by simp) ?_; (case hd => rfl); (case hg => rfl); (case hr => first | (go_simp; done) | (go_simp; rfl)); (case hp => exact (Reps.one (show Kd.M Kd.string _ _ _ (⟨#[98]⟩ : ByteArray) [.string (⟨#[98]⟩ : ByteArray)] from rfl) (Reps.one (show Kd.M Kd.string _ _ _ (⟨#[97]⟩ : ByteArray) [.string (⟨#[97]⟩ : ByteArray)] from rfl) (Reps.none _ _)))); intro v156 w11 ho12 hb hg_ hnew_; clear hg_ hnew_; (first | rw [← Ny155.out] at ho12 | (simp only [Int.reduceToNat] at ho12; rw [← Ny155.out] at ho12)); have n0_ := Aside0.mk (Kd.R_lower ho12 (qAn (by repeat (first | (with_reducible first | exact HB.out | apply qAd | apply qAc | apply qAe) | exact HB.out)))); have n1_ := Aside0.mk (qAj (by repeat (first | (with_reducible first | exact HB.out | apply qAd | apply qAc | apply qAe) | exact HB.out)) hb); clear HB; have HO157 := n0_; have HB := n1_; clear n0_ n1_; clear hb ho12) | ((with_reducible refine qAy (N := 9) rfl ?_); refine Kd.R_lit k25 _ 25 ?hg (N := 9) ?hd (xs := ([(⟨2, false, 1, (⟨#[]⟩ : ByteArray), ([] : List (S25)), ([] : List ByteArray)⟩ : S25), (⟨1, true, 0, (⟨#[]⟩ : ByteArray), ([] : List (S25)), ([] : List ByteArray)⟩ : S25)] : List (S25))) (inner := [.int .i64 2, .bool false, .int .i64 1, .string (⟨#[]⟩ : ByteArray), .slice none 0 0, .slice none 0 0, .int .i64 1, .bool true, .int .i64 0, .string (⟨#[]⟩ : ByteArray), .slice none 0 0, .slice none 0 0]) (ok := fun _ => True) (okp := fun _ => True) ?hr ?hp (fun _ hk => hk) trivial (Below.refl _ _) (Nat.le_refl _) (by simp) ?_; (case hd => rfl); (case hg => rfl); (case hr => first | (go_simp; done) | (go_simp; rfl)); (case hp => exact (Reps.c6 (show Kd.M k25 _ _ _ (⟨2, false, 1, (⟨#[]⟩ : ByteArray), ([] : List (S25)), ([] : List ByteArray)⟩ : S25) [.int .i64 2, .bool false, .int .i64 1, .string (⟨#[]⟩ : ByteArray), .slice none 0 0, .slice none 0 0] from (qE4 _ _ _ (⟨2, false, 1, (⟨#[]⟩ : ByteArray), ([] : List (S25)), ([] : List ByteArray)⟩ : S25) (Kd.R_nil _ _ _ _ _) (Kd.R_nil _ _ _ _ _))) (Reps.c6 (show Kd.M k25 _ _ _ (⟨1, true, 0, (⟨#[]⟩ : ByteArray), ([] : List (S25)), ([] : List ByteArray)⟩ : S25) [.int .i64 1, .bool true, .int .i64 0, .string (⟨#[]⟩ : ByteArray), .slice none 0 0, .slice none 0 0] from (qE4 _ _ _ (⟨1, true, 0, (⟨#[]⟩ : ByteArray), ([] : List (S25)), ([] : List ByteArray)⟩ : S25) (Kd.R_nil _ _ _ _ _) (Kd.R_nil _ _ _ _ _))) (Reps.none _ _)))); intro v159 w13 ho14 hb hg_ hnew_; clear hg_ hnew_; (first | rw [← Ny158.out] at ho14 | (simp only [Int.reduceToNat] at ho14; rw [← Ny158.out] at ho14)); have n0_ := Aside0.mk (Kd.R_below (by (with_reducible repeat (first | apply Kd.R_alloc | apply Kd.R_drewN | apply Kd.R_drew)); exact HO157.out) hb); have n1_ := Aside0.mk (Kd.R_lower (Kd.R_new' ho14 (Kd.R_lt (by (with_reducible repeat (first | apply Kd.R_alloc | apply Kd.R_drewN | apply Kd.R_drew)); exact HO157.out))) (qAn (by repeat (first | (with_reducible first | exact HB.out | apply qAd | apply qAc | apply qAe) | exact HB.out)))); have n2_ := Aside0.mk (qAj (by repeat (first | (with_reducible first | exact HB.out | apply qAd | apply qAc | apply qAe) | exact HB.out)) hb); clear HO157; clear HB; have HO157 := n0_; have HO160 := n1_; have HB := n2_; clear n0_ n1_ n2_; clear hb ho14; obtain ⟨Ao15, co15, eo15⟩ := Kd.R_slice HO157.out; subst eo15; obtain ⟨Ao16, co16, eo16⟩ := Kd.R_slice HO160.out; subst eo16) | ((with_reducible refine qAp (f := 30) rfl ?_); refine goesL_ (some 10) rfl rfl Tryd.func30 (by kernel_rfl) rfl #[.slice Ao15 y155.length co15, .slice Ao16 y158.length co16] rfl (by (try simp only [List.map_toArray, List.map_cons, List.map_nil]); first | done | rfl | (simp only [List.length_drop, List.length_take]; rfl)) ?_; (with_reducible refine (value_Of.calls k _ _ y155 _ _ y158 t161 t162 t163 t164 t165 t168 _ ?side1 ?side2 ?side3 ?side4 A1.out).mono ?_); (case side1 => repeat (first | exact (Kd.R_reads' HO157.out).2.2 | (with_reducible refine Kd.C_alloc ?_ _) | (with_reducible refine Kd.C_drewN ?_ _) | (with_reducible refine Kd.C_drew ?_))); (case side2 => exact (Kd.R_reads' HO157.out).2.1); (case side3 => repeat (first | exact (Kd.R_reads' HO160.out).2.2 | (with_reducible refine Kd.C_alloc ?_ _) | (with_reducible refine Kd.C_drewN ?_ _) | (with_reducible refine Kd.C_drew ?_))); (case side4 => exact (Kd.R_reads' HO160.out).2.1); rintro e w17 ⟨v166, v169, rfl, ho0, ho1, hb⟩; refine ⟨_, rfl, ?_⟩; have n0_ := Aside0.mk (Kd.R_elder' (by (with_reducible repeat (first | apply Kd.R_alloc | apply Kd.R_drewN | apply Kd.R_drew)); exact HO157.out) (Kd.R_base ho1) hb); have n1_ := Aside0.mk (Kd.R_mono (Kd.R_told (Kd.R_told (Kd.R_old (by (with_reducible repeat (first | apply Kd.R_alloc | apply Kd.R_drewN | apply Kd.R_drew)); exact HO160.out) hb) (Kd.R_base ho0)) (Kd.R_base ho1)) (fun _ h_ => h_.1)); have n2_ := Aside0.mk (Kd.R_lower (Kd.R_new' (Kd.R_new' ho0 (Kd.R_lt (by (with_reducible repeat (first | apply Kd.R_alloc | apply Kd.R_drewN | apply Kd.R_drew)); exact HO157.out))) (Kd.R_lt (by (with_reducible repeat (first | apply Kd.R_alloc | apply Kd.R_drewN | apply Kd.R_drew)); exact HO160.out))) (qAn (by repeat (first | (with_reducible first | exact HB.out | apply qAd | apply qAc | apply qAe) | exact HB.out)))); have n3_ := Aside0.mk (Kd.R_lower (Kd.R_new' ho1 (Kd.R_lt (by (with_reducible repeat (first | apply Kd.R_alloc | apply Kd.R_drewN | apply Kd.R_drew)); exact HO157.out))) (qAn (by repeat (first | (with_reducible first | exact HB.out | apply qAd | apply qAc | apply qAe) | exact HB.out)))); have n4_ := Aside0.mk (qAj (by repeat (first | (with_reducible first | exact HB.out | apply qAd | apply qAc | apply qAe) | exact HB.out)) hb); clear HO157; clear HO160; clear HB; have HO157 := n0_; have HO160 := n1_; have HO167 := n2_; have HO170 := n3_; have HB := n4_; clear n0_ n1_ n2_ n3_ n4_; (try clear hb); (try clear hb2); (try clear hk); (try clear hi); (try clear ho0); (try clear ho1)) | ((with_reducible refine qAy (N := 1) rfl ?_); refine qAv ?hg (N := 1) ?hd (cs := #[.int .i64 0, .bool false, .int .i64 0, .string (⟨#[]⟩ : ByteArray), .slice none 0 0, .slice none 0 0]) (t := 25) ?hr ?_; (case hd => rfl); (case hg => rfl); (case hr => first | (go_simp; done) | (go_simp; rfl)); intro gb171 hg w18 hbox hb; have n0_ := Aside0.mk (Kd.R_below (by (with_reducible repeat (first | apply Kd.R_alloc | apply Kd.R_drewN | apply Kd.R_drew)); exact HO157.out) hb); have n1_ := Aside0.mk (Kd.R_below (Kd.R_elderB (by (with_reducible repeat (first | apply Kd.R_alloc | apply Kd.R_drewN | apply Kd.R_drew)); exact HO160.out) gb171 (Nat.le_of_eq hg.symm)) hb); have n2_ := Aside0.mk (Kd.R_below (Kd.R_elderB (by (with_reducible repeat (first | apply Kd.R_alloc | apply Kd.R_drewN | apply Kd.R_drew)); exact HO167.out) gb171 (Nat.le_of_eq hg.symm)) hb); have n3_ := Aside0.mk (Kd.R_below (by (with_reducible repeat (first | apply Kd.R_alloc | apply Kd.R_drewN | apply Kd.R_drew)); exact HO170.out) hb); have n4_ := Aside0.mk (qAj (by repeat (first | (with_reducible first | exact HB.out | apply qAd | apply qAc | apply qAe) | exact HB.out)) hb); have n5_ := Aside0.mk (hbox); have n6_ := Aside0.mk ((by rw [hg]; exact (qAn (by repeat (first | (with_reducible first | exact HB.out | apply qAd | apply qAc | apply qAe) | exact HB.out))) : w.heap.size ≤ gb171)); have n7_ := Aside0.mk ((by rw [hg]; exact (qAn (by repeat (first | (with_reducible first | exact HB.out | apply qAd | apply qAc | apply qAe) | exact HB.out))) : w.heap.size ≤ gb171)); clear HO157; clear HO160; clear HO167; clear HO170; clear HB; have HO157 := n0_; have HO160 := n1_; have HO167 := n2_; have HO170 := n3_; have HB := n4_; have BK171 := n5_; have GW171 := n6_; have GE171 := n7_; clear n0_ n1_ n2_ n3_ n4_ n5_ n6_ n7_; clear hb hbox hg; have hcz19_0 : w18.cell? ⟨gb171, 0, none⟩ = some (.int .i64 0) := (qAb BK171.out 0).trans rfl; have hcz19_1 : w18.cell? ⟨gb171, 1, none⟩ = some (.bool false) := (qAb BK171.out 1).trans rfl; have hcz19_2 : w18.cell? ⟨gb171, 2, none⟩ = some (.int .i64 0) := (qAb BK171.out 2).trans rfl; have hcz19_3 : w18.cell? ⟨gb171, 3, none⟩ = some (.string (⟨#[]⟩ : ByteArray)) := (qAb BK171.out 3).trans rfl; have hcz19_4 : w18.cell? ⟨gb171, 4, none⟩ = some (.slice none 0 0) := (qAb BK171.out 4).trans rfl; have hcz19_5 : w18.cell? ⟨gb171, 5, none⟩ = some (.slice none 0 0) := (qAb BK171.out 5).trans rfl; have hfz19_0 := qAa BK171.out 0; have hfz19_1 := qAa BK171.out 1; have hfz19_2 := qAa BK171.out 2; have hfz19_3 := qAa BK171.out 3; have hfz19_4 := qAa BK171.out 4; have hfz19_5 := qAa BK171.out 5; obtain ⟨Ao20, co20, eo20⟩ := Kd.R_slice HO167.out; subst eo20; obtain ⟨Ao21, co21, eo21⟩ := Kd.R_slice HO170.out; subst eo21) | ((with_reducible refine qAp (f := 16) rfl ?_); refine goesL_ (some 13) rfl rfl Tryd.func16 (by kernel_rfl) rfl #[.agg #[.int .i64 t161, .bool t162, .int .i64 t163, .string t164, .slice Ao20 t165.length co20, .slice Ao21 t168.length co21]] rfl (by (try simp only [List.map_toArray, List.map_cons, List.map_nil]); first | done | rfl | (simp only [List.length_drop, List.length_take]; rfl)) ?_; (with_reducible refine (value_Lay.calls k t161 t162 t163 t164 _ _ t165 _ _ t168 t172 t173 _ ?side1 ?side2 ?side3 ?side4 ?side5 A2.out).mono ?_); (case side1 => exact ⟨Tabs.below hT.out (by repeat (first | (with_reducible first | exact HB.out | apply qAd | apply qAc | apply qAe | refine qAf ?_ GE171.out) | exact HB.out))⟩); (case side2 => refine (Kd.R_reads' (e := 25) (base := w.heap.size) (ok := fun k_ => (((some k_ ≠ (.slice Ao21 t168.length co21 : Value).ownBlock ∧ some k_ ≠ (.slice Ao15 y155.length co15 : Value).ownBlock) ∧ some k_ ≠ (.slice Ao16 y158.length co16 : Value).ownBlock) ∧ k_ ≠ gb171)) (n := t165.length) (c := co20) ?_).2.2; exact (by (with_reducible repeat (first | apply Kd.R_alloc | apply Kd.R_drewN | apply Kd.R_drew)); exact (Kd.R_mono (Kd.R_far (p := ⟨gb171, 5, none⟩) (Kd.R_far (p := ⟨gb171, 4, none⟩) (Kd.R_far (p := ⟨gb171, 3, none⟩) (Kd.R_far (p := ⟨gb171, 2, none⟩) (Kd.R_far (p := ⟨gb171, 1, none⟩) (Kd.R_far (p := ⟨gb171, 0, none⟩) (Kd.R_mono HO167.out (fun k_ hk => (⟨hk, hk.2⟩ : _ ∧ k_ ≠ gb171))) (fun _ hk => hk.2) (.int .i64 t161)) (fun _ hk => hk.2) (.bool t162)) (fun _ hk => hk.2) (.int .i64 t163)) (fun _ hk => hk.2) (.string t164)) (fun _ hk => hk.2) (.slice Ao20 t165.length co20)) (fun _ hk => hk.2) (.slice Ao21 t168.length co21)) (fun _ h_ => h_.1)))); (case side3 => exact (Kd.R_reads' HO167.out).2.1); (case side4 => refine (Kd.R_reads' (e := 9) (base := w.heap.size) (ok := fun k_ => (True ∧ some k_ ≠ (.slice Ao15 y155.length co15 : Value).ownBlock)) (n := t168.length) (c := co21) ?_).2.2; exact (by (with_reducible repeat (first | apply Kd.R_alloc | apply Kd.R_drewN | apply Kd.R_drew)); exact (Kd.R_mono (Kd.R_far (p := ⟨gb171, 5, none⟩) (Kd.R_far (p := ⟨gb171, 4, none⟩) (Kd.R_far (p := ⟨gb171, 3, none⟩) (Kd.R_far (p := ⟨gb171, 2, none⟩) (Kd.R_far (p := ⟨gb171, 1, none⟩) (Kd.R_far (p := ⟨gb171, 0, none⟩) (Kd.R_types HO170.out BK171.out (by decide)) (fun _ hk => hk.2) (.int .i64 t161)) (fun _ hk => hk.2) (.bool t162)) (fun _ hk => hk.2) (.int .i64 t163)) (fun _ hk => hk.2) (.string t164)) (fun _ hk => hk.2) (.slice Ao20 t165.length co20)) (fun _ hk => hk.2) (.slice Ao21 t168.length co21)) (fun _ h_ => h_.1)))); (case side5 => exact (Kd.R_reads' HO170.out).2.1); rintro e w22 ⟨rfl, hb⟩; refine ⟨_, rfl, ?_⟩; have n0_ := Aside0.mk (Kd.R_below (by (with_reducible repeat (first | apply Kd.R_alloc | apply Kd.R_drewN | apply Kd.R_drew)); exact (Kd.R_mono (Kd.R_far (p := ⟨gb171, 5, none⟩) (Kd.R_far (p := ⟨gb171, 4, none⟩) (Kd.R_far (p := ⟨gb171, 3, none⟩) (Kd.R_far (p := ⟨gb171, 2, none⟩) (Kd.R_far (p := ⟨gb171, 1, none⟩) (Kd.R_far (p := ⟨gb171, 0, none⟩) (Kd.R_types HO157.out BK171.out (by decide)) (fun _ hk => hk.2) (.int .i64 t161)) (fun _ hk => hk.2) (.bool t162)) (fun _ hk => hk.2) (.int .i64 t163)) (fun _ hk => hk.2) (.string t164)) (fun _ hk => hk.2) (.slice Ao20 t165.length co20)) (fun _ hk => hk.2) (.slice Ao21 t168.length co21)) (fun _ h_ => h_.1))) hb); have n1_ := Aside0.mk (Kd.R_below (by (with_reducible repeat (first | apply Kd.R_alloc | apply Kd.R_drewN | apply Kd.R_drew)); exact (Kd.R_mono (Kd.R_far (p := ⟨gb171, 5, none⟩) (Kd.R_far (p := ⟨gb171, 4, none⟩) (Kd.R_far (p := ⟨gb171, 3, none⟩) (Kd.R_far (p := ⟨gb171, 2, none⟩) (Kd.R_far (p := ⟨gb171, 1, none⟩) (Kd.R_far (p := ⟨gb171, 0, none⟩) (Kd.R_mono HO160.out (fun k_ hk => (⟨hk, hk.2⟩ : _ ∧ k_ ≠ gb171))) (fun _ hk => hk.2) (.int .i64 t161)) (fun _ hk => hk.2) (.bool t162)) (fun _ hk => hk.2) (.int .i64 t163)) (fun _ hk => hk.2) (.string t164)) (fun _ hk => hk.2) (.slice Ao20 t165.length co20)) (fun _ hk => hk.2) (.slice Ao21 t168.length co21)) (fun _ h_ => h_.1))) hb); have n2_ := Aside0.mk (Kd.R_below (by (with_reducible repeat (first | apply Kd.R_alloc | apply Kd.R_drewN | apply Kd.R_drew)); exact (Kd.R_mono (Kd.R_far (p := ⟨gb171, 5, none⟩) (Kd.R_far (p := ⟨gb171, 4, none⟩) (Kd.R_far (p := ⟨gb171, 3, none⟩) (Kd.R_far (p := ⟨gb171, 2, none⟩) (Kd.R_far (p := ⟨gb171, 1, none⟩) (Kd.R_far (p := ⟨gb171, 0, none⟩) (Kd.R_mono HO167.out (fun k_ hk => (⟨hk, hk.2⟩ : _ ∧ k_ ≠ gb171))) (fun _ hk => hk.2) (.int .i64 t161)) (fun _ hk => hk.2) (.bool t162)) (fun _ hk => hk.2) (.int .i64 t163)) (fun _ hk => hk.2) (.string t164)) (fun _ hk => hk.2) (.slice Ao20 t165.length co20)) (fun _ hk => hk.2) (.slice Ao21 t168.length co21)) (fun _ h_ => h_.1))) hb); have n3_ := Aside0.mk (Kd.R_below (by (with_reducible repeat (first | apply Kd.R_alloc | apply Kd.R_drewN | apply Kd.R_drew)); exact (Kd.R_mono (Kd.R_far (p := ⟨gb171, 5, none⟩) (Kd.R_far (p := ⟨gb171, 4, none⟩) (Kd.R_far (p := ⟨gb171, 3, none⟩) (Kd.R_far (p := ⟨gb171, 2, none⟩) (Kd.R_far (p := ⟨gb171, 1, none⟩) (Kd.R_far (p := ⟨gb171, 0, none⟩) (Kd.R_types HO170.out BK171.out (by decide)) (fun _ hk => hk.2) (.int .i64 t161)) (fun _ hk => hk.2) (.bool t162)) (fun _ hk => hk.2) (.int .i64 t163)) (fun _ hk => hk.2) (.string t164)) (fun _ hk => hk.2) (.slice Ao20 t165.length co20)) (fun _ hk => hk.2) (.slice Ao21 t168.length co21)) (fun _ h_ => h_.1))) hb); have n4_ := Aside0.mk (qAm (g := gb171) (o := .cells #[.int .i64 t161, .bool t162, .int .i64 t163, .string t164, .slice Ao20 t165.length co20, .slice Ao21 t168.length co21] 25 (0, 0)) (by (with_reducible repeat (first | refine qAg ?_ _ | refine qAi ?_ | refine blk_alloc ?_ _)); refine qA6 (cs := #[.int .i64 t161, .bool t162, .int .i64 t163, .string t164, .slice Ao20 t165.length co20, .slice none 0 0]) ?_ 5 _ rfl; (with_reducible repeat (first | refine qAg ?_ _ | refine qAi ?_ | refine blk_alloc ?_ _)); refine qA6 (cs := #[.int .i64 t161, .bool t162, .int .i64 t163, .string t164, .slice none 0 0, .slice none 0 0]) ?_ 4 _ rfl; (with_reducible repeat (first | refine qAg ?_ _ | refine qAi ?_ | refine blk_alloc ?_ _)); refine qA6 (cs := #[.int .i64 t161, .bool t162, .int .i64 t163, .string (⟨#[]⟩ : ByteArray), .slice none 0 0, .slice none 0 0]) ?_ 3 _ rfl; (with_reducible repeat (first | refine qAg ?_ _ | refine qAi ?_ | refine blk_alloc ?_ _)); refine qA6 (cs := #[.int .i64 t161, .bool t162, .int .i64 0, .string (⟨#[]⟩ : ByteArray), .slice none 0 0, .slice none 0 0]) ?_ 2 _ rfl; (with_reducible repeat (first | refine qAg ?_ _ | refine qAi ?_ | refine blk_alloc ?_ _)); refine qA6 (cs := #[.int .i64 t161, .bool false, .int .i64 0, .string (⟨#[]⟩ : ByteArray), .slice none 0 0, .slice none 0 0]) ?_ 1 _ rfl; (with_reducible repeat (first | refine qAg ?_ _ | refine qAi ?_ | refine blk_alloc ?_ _)); refine qA6 (cs := #[.int .i64 0, .bool false, .int .i64 0, .string (⟨#[]⟩ : ByteArray), .slice none 0 0, .slice none 0 0]) ?_ 0 _ rfl; (with_reducible repeat (first | refine qAg ?_ _ | refine qAi ?_ | refine blk_alloc ?_ _)); exact BK171.out) hb); have n5_ := Aside0.mk (qAj (by repeat (first | (with_reducible first | exact HB.out | apply qAd | apply qAc | apply qAe | refine qAf ?_ GE171.out) | exact HB.out)) hb); clear HO157; clear HO160; clear HO167; clear HO170; clear BK171; clear HB; have HO157 := n0_; have HO160 := n1_; have HO167 := n2_; have HO170 := n3_; have BK171 := n4_; have HB := n5_; clear n0_ n1_ n2_ n3_ n4_ n5_; (try clear hb); (try clear hb2); (try clear hk); (try clear hi); have hcz23_0 : w22.cell? ⟨gb171, 0, none⟩ = some (.int .i64 t161) := (qAb BK171.out 0).trans rfl; have hcz23_1 : w22.cell? ⟨gb171, 1, none⟩ = some (.bool t162) := (qAb BK171.out 1).trans rfl; have hcz23_2 : w22.cell? ⟨gb171, 2, none⟩ = some (.int .i64 t163) := (qAb BK171.out 2).trans rfl; have hcz23_3 : w22.cell? ⟨gb171, 3, none⟩ = some (.string t164) := (qAb BK171.out 3).trans rfl; have hcz23_4 : w22.cell? ⟨gb171, 4, none⟩ = some (.slice Ao20 t165.length co20) := (qAb BK171.out 4).trans rfl; have hcz23_5 : w22.cell? ⟨gb171, 5, none⟩ = some (.slice Ao21 t168.length co21) := (qAb BK171.out 5).trans rfl; have hfz23_0 := qAa BK171.out 0; have hfz23_1 := qAa BK171.out 1; have hfz23_2 := qAa BK171.out 2; have hfz23_3 := qAa BK171.out 3; have hfz23_4 := qAa BK171.out 4; have hfz23_5 := qAa BK171.out 5) | ((with_reducible refine qAp (f := 18) rfl ?_); refine goesL_ (some 18) rfl rfl Tryd.func18 (by kernel_rfl) rfl #[.agg #[.int .i64 t161, .bool t162, .int .i64 t163, .string t164, .slice Ao20 t165.length co20, .slice Ao21 t168.length co21], .string (⟨#[98]⟩ : ByteArray)] rfl (by (try simp only [List.map_toArray, List.map_cons, List.map_nil]); first | done | rfl | (simp only [List.length_drop, List.length_take]; rfl)) ?_; (with_reducible refine (value_Get.calls k t161 t162 t163 t164 _ _ t165 _ _ t168 (⟨#[98]⟩ : ByteArray) t174 t175 t176 t177 t178 t181 true _ ?side1 ?side2 ?side3 ?side4 A3.out).mono ?_); (case side1 => repeat (first | exact (Kd.R_reads' HO167.out).2.2 | (with_reducible refine Kd.C_alloc ?_ _) | (with_reducible refine Kd.C_drewN ?_ _) | (with_reducible refine Kd.C_drew ?_))); (case side2 => exact (Kd.R_reads' HO167.out).2.1); (case side3 => repeat (first | exact (Kd.R_reads' HO170.out).2.2 | (with_reducible refine Kd.C_alloc ?_ _) | (with_reducible refine Kd.C_drewN ?_ _) | (with_reducible refine Kd.C_drew ?_))); (case side4 => exact (Kd.R_reads' HO170.out).2.1); rintro e w24 ⟨v179, v182, rfl, ho0, ho1, hb⟩; refine ⟨_, rfl, ?_⟩; have n0_ := Aside0.mk (Kd.R_elder' (by (with_reducible repeat (first | apply Kd.R_alloc | apply Kd.R_drewN | apply Kd.R_drew)); exact HO157.out) (Kd.R_base ho1) hb); have n1_ := Aside0.mk (Kd.R_mono (Kd.R_told (Kd.R_told (Kd.R_old (by (with_reducible repeat (first | apply Kd.R_alloc | apply Kd.R_drewN | apply Kd.R_drew)); exact HO160.out) hb) (Kd.R_base ho0)) (Kd.R_base ho1)) (fun _ h_ => h_.1)); have n2_ := Aside0.mk (Kd.R_mono (Kd.R_told (Kd.R_told (Kd.R_old (by (with_reducible repeat (first | apply Kd.R_alloc | apply Kd.R_drewN | apply Kd.R_drew)); exact HO167.out) hb) (Kd.R_base ho0)) (Kd.R_base ho1)) (fun _ h_ => h_.1)); have n3_ := Aside0.mk (Kd.R_elder' (by (with_reducible repeat (first | apply Kd.R_alloc | apply Kd.R_drewN | apply Kd.R_drew)); exact HO170.out) (Kd.R_base ho1) hb); have n4_ := Aside0.mk (Kd.R_lower (Kd.R_newB (Kd.R_new' (Kd.R_new' (Kd.R_new' (Kd.R_new' ho0 (Kd.R_lt (by (with_reducible repeat (first | apply Kd.R_alloc | apply Kd.R_drewN | apply Kd.R_drew)); exact HO157.out))) (Kd.R_lt (by (with_reducible repeat (first | apply Kd.R_alloc | apply Kd.R_drewN | apply Kd.R_drew)); exact HO160.out))) (Kd.R_lt (by (with_reducible repeat (first | apply Kd.R_alloc | apply Kd.R_drewN | apply Kd.R_drew)); exact HO167.out))) (Kd.R_lt (by (with_reducible repeat (first | apply Kd.R_alloc | apply Kd.R_drewN | apply Kd.R_drew)); exact HO170.out))) (g := gb171) (o := .cells #[.int .i64 t161, .bool t162, .int .i64 t163, .string t164, .slice Ao20 t165.length co20, .slice Ao21 t168.length co21] 25 (0, 0)) (by (with_reducible repeat (first | refine qAg ?_ _ | refine qAi ?_ | refine blk_alloc ?_ _)); exact BK171.out)) (qAn (by repeat (first | (with_reducible first | exact HB.out | apply qAd | apply qAc | apply qAe | refine qAf ?_ GE171.out) | exact HB.out)))); have n5_ := Aside0.mk (Kd.R_lower (Kd.R_new' (Kd.R_new' ho1 (Kd.R_lt (by (with_reducible repeat (first | apply Kd.R_alloc | apply Kd.R_drewN | apply Kd.R_drew)); exact HO157.out))) (Kd.R_lt (by (with_reducible repeat (first | apply Kd.R_alloc | apply Kd.R_drewN | apply Kd.R_drew)); exact HO170.out))) (qAn (by repeat (first | (with_reducible first | exact HB.out | apply qAd | apply qAc | apply qAe | refine qAf ?_ GE171.out) | exact HB.out)))); have n6_ := Aside0.mk (qAm (g := gb171) (o := .cells #[.int .i64 t161, .bool t162, .int .i64 t163, .string t164, .slice Ao20 t165.length co20, .slice Ao21 t168.length co21] 25 (0, 0)) (by (with_reducible repeat (first | refine qAg ?_ _ | refine qAi ?_ | refine blk_alloc ?_ _)); exact BK171.out) hb); have n7_ := Aside0.mk (qAj (by repeat (first | (with_reducible first | exact HB.out | apply qAd | apply qAc | apply qAe | refine qAf ?_ GE171.out) | exact HB.out)) hb); clear HO157; clear HO160; clear HO167; clear HO170; clear BK171; clear HB; have HO157 := n0_; have HO160 := n1_; have HO167 := n2_; have HO170 := n3_; have HO180 := n4_; have HO183 := n5_; have BK171 := n6_; have HB := n7_; clear n0_ n1_ n2_ n3_ n4_ n5_ n6_ n7_; (try clear hb); (try clear hb2); (try clear hk); (try clear hi); (try clear ho0); (try clear ho1)) | ((with_reducible refine qAy (N := 4) rfl ?_); refine qAv ?hg (N := 4) ?hd (cs := #[.int .i64 0, .bool false, .int .i64 0, .string (⟨#[]⟩ : ByteArray), .slice none 0 0, .slice none 0 0]) (t := 25) ?hr ?_; (case hd => rfl); (case hg => rfl); (case hr => first | (go_simp; done) | (go_simp; rfl)); intro gb185 hg w25 hbox hb; have n0_ := Aside0.mk (Kd.R_below (by (with_reducible repeat (first | apply Kd.R_alloc | apply Kd.R_drewN | apply Kd.R_drew)); exact HO157.out) hb); have n1_ := Aside0.mk (Kd.R_below (Kd.R_elderB (by (with_reducible repeat (first | apply Kd.R_alloc | apply Kd.R_drewN | apply Kd.R_drew)); exact HO160.out) gb185 (Nat.le_of_eq hg.symm)) hb); have n2_ := Aside0.mk (Kd.R_below (Kd.R_elderB (by (with_reducible repeat (first | apply Kd.R_alloc | apply Kd.R_drewN | apply Kd.R_drew)); exact HO167.out) gb185 (Nat.le_of_eq hg.symm)) hb); have n3_ := Aside0.mk (Kd.R_below (by (with_reducible repeat (first | apply Kd.R_alloc | apply Kd.R_drewN | apply Kd.R_drew)); exact HO170.out) hb); have n4_ := Aside0.mk (Kd.R_below (Kd.R_elderB (by (with_reducible repeat (first | apply Kd.R_alloc | apply Kd.R_drewN | apply Kd.R_drew)); exact HO180.out) gb185 (Nat.le_of_eq hg.symm)) hb); have n5_ := Aside0.mk (Kd.R_below (by (with_reducible repeat (first | apply Kd.R_alloc | apply Kd.R_drewN | apply Kd.R_drew)); exact HO183.out) hb); have n6_ := Aside0.mk (qAm (g := gb171) (o := .cells #[.int .i64 t161, .bool t162, .int .i64 t163, .string t164, .slice Ao20 t165.length co20, .slice Ao21 t168.length co21] 25 (0, 0)) (by (with_reducible repeat (first | refine qAg ?_ _ | refine qAi ?_ | refine blk_alloc ?_ _)); exact BK171.out) hb); have n7_ := Aside0.mk (qAj (by repeat (first | (with_reducible first | exact HB.out | apply qAd | apply qAc | apply qAe | refine qAf ?_ GE171.out) | exact HB.out)) hb); have n8_ := Aside0.mk (hbox); have n9_ := Aside0.mk ((by rw [hg]; exact (qAn (by repeat (first | (with_reducible first | exact HB.out | apply qAd | apply qAc | apply qAe | refine qAf ?_ GE171.out) | exact HB.out))) : w.heap.size ≤ gb185)); have n10_ := Aside0.mk ((by rw [hg]; exact (qAn (by repeat (first | (with_reducible first | exact HB.out | apply qAd | apply qAc | apply qAe | refine qAf ?_ GE171.out) | exact HB.out))) : w.heap.size ≤ gb185)); have n11_ := Aside0.mk ((by rw [hg]; exact Nat.ne_of_lt (blk_lt (g := gb171) (o := .cells #[.int .i64 t161, .bool t162, .int .i64 t163, .string t164, .slice Ao20 t165.length co20, .slice Ao21 t168.length co21] 25 (0, 0)) (by (with_reducible repeat (first | refine qAg ?_ _ | refine qAi ?_ | refine blk_alloc ?_ _)); exact BK171.out)) : gb171 ≠ gb185)); have n12_ := Aside0.mk ((by rw [hg]; exact Nat.ne_of_gt (blk_lt (g := gb171) (o := .cells #[.int .i64 t161, .bool t162, .int .i64 t163, .string t164, .slice Ao20 t165.length co20, .slice Ao21 t168.length co21] 25 (0, 0)) (by (with_reducible repeat (first | refine qAg ?_ _ | refine qAi ?_ | refine blk_alloc ?_ _)); exact BK171.out)) : gb185 ≠ gb171)); clear HO157; clear HO160; clear HO167; clear HO170; clear HO180; clear HO183; clear BK171; clear HB; have HO157 := n0_; have HO160 := n1_; have HO167 := n2_; have HO170 := n3_; have HO180 := n4_; have HO183 := n5_; have BK171 := n6_; have HB := n7_; have BK185 := n8_; have GW185 := n9_; have GE185 := n10_; have NB171_185 := n11_; have NB185_171 := n12_; clear n0_ n1_ n2_ n3_ n4_ n5_ n6_ n7_ n8_ n9_ n10_ n11_ n12_; clear hb hbox hg; have hnb26 := NB185_171.out; have hnc26 := NB171_185.out; have hcz27_0 : w25.cell? ⟨gb185, 0, none⟩ = some (.int .i64 0) := (qAb BK185.out 0).trans rfl; have hcz27_1 : w25.cell? ⟨gb185, 1, none⟩ = some (.bool false) := (qAb BK185.out 1).trans rfl; have hcz27_2 : w25.cell? ⟨gb185, 2, none⟩ = some (.int .i64 0) := (qAb BK185.out 2).trans rfl; have hcz27_3 : w25.cell? ⟨gb185, 3, none⟩ = some (.string (⟨#[]⟩ : ByteArray)) := (qAb BK185.out 3).trans rfl; have hcz27_4 : w25.cell? ⟨gb185, 4, none⟩ = some (.slice none 0 0) := (qAb BK185.out 4).trans rfl; have hcz27_5 : w25.cell? ⟨gb185, 5, none⟩ = some (.slice none 0 0) := (qAb BK185.out 5).trans rfl; have hfz27_0 := qAa BK185.out 0; have hfz27_1 := qAa BK185.out 1; have hfz27_2 := qAa BK185.out 2; have hfz27_3 := qAa BK185.out 3; have hfz27_4 := qAa BK185.out 4; have hfz27_5 := qAa BK185.out 5; obtain ⟨Ao28, co28, eo28⟩ := Kd.R_slice HO180.out; subst eo28; obtain ⟨Ao29, co29, eo29⟩ := Kd.R_slice HO183.out; subst eo29; have hcz30_0 : w25.cell? ⟨gb171, 0, none⟩ = some (.int .i64 t161) := (qAb BK171.out 0).trans rfl; have hcz30_1 : w25.cell? ⟨gb171, 1, none⟩ = some (.bool t162) := (qAb BK171.out 1).trans rfl; have hcz30_2 : w25.cell? ⟨gb171, 2, none⟩ = some (.int .i64 t163) := (qAb BK171.out 2).trans rfl; have hcz30_3 : w25.cell? ⟨gb171, 3, none⟩ = some (.string t164) := (qAb BK171.out 3).trans rfl; have hcz30_4 : w25.cell? ⟨gb171, 4, none⟩ = some (.slice Ao20 t165.length co20) := (qAb BK171.out 4).trans rfl; have hcz30_5 : w25.cell? ⟨gb171, 5, none⟩ = some (.slice Ao21 t168.length co21) := (qAb BK171.out 5).trans rfl; have hfz30_0 := qAa BK171.out 0; have hfz30_1 := qAa BK171.out 1; have hfz30_2 := qAa BK171.out 2; have hfz30_3 := qAa BK171.out 3; have hfz30_4 := qAa BK171.out 4; have hfz30_5 := qAa BK171.out 5) | (go_at_call 21; (with_reducible refine (value_May.calls t161 t162 t163 t164 _ _ t165 _ _ t168 true _ ?side1 ?side2 ?side3 ?side4 A8.out).mono ?_); (case side1 => refine (Kd.R_reads' (e := 25) (base := w.heap.size) (ok := fun k_ => ((((((some k_ ≠ (.slice Ao21 t168.length co21 : Value).ownBlock ∧ some k_ ≠ (.slice Ao15 y155.length co15 : Value).ownBlock) ∧ some k_ ≠ (.slice Ao16 y158.length co16 : Value).ownBlock) ∧ k_ ≠ gb171) ∧ some k_ ≠ (.slice Ao28 t178.length co28 : Value).ownBlock) ∧ some k_ ≠ (.slice Ao29 t181.length co29 : Value).ownBlock) ∧ k_ ≠ gb185)) (n := t165.length) (c := co20) ?_).2.2; exact (by (with_reducible repeat (first | apply Kd.R_alloc | apply Kd.R_drewN | apply Kd.R_drew)); exact (Kd.R_mono (Kd.R_far (p := ⟨gb185, 5, none⟩) (Kd.R_far (p := ⟨gb185, 4, none⟩) (Kd.R_far (p := ⟨gb185, 3, none⟩) (Kd.R_far (p := ⟨gb185, 2, none⟩) (Kd.R_far (p := ⟨gb185, 1, none⟩) (Kd.R_far (p := ⟨gb185, 0, none⟩) (Kd.R_mono HO167.out (fun k_ hk => (⟨hk, hk.2⟩ : _ ∧ k_ ≠ gb185))) (fun _ hk => hk.2) (.int .i64 t174)) (fun _ hk => hk.2) (.bool t175)) (fun _ hk => hk.2) (.int .i64 t176)) (fun _ hk => hk.2) (.string t177)) (fun _ hk => hk.2) (.slice Ao28 t178.length co28)) (fun _ hk => hk.2) (.slice Ao29 t181.length co29)) (fun _ h_ => h_.1)))); (case side2 => exact (Kd.R_reads' HO167.out).2.1); (case side3 => refine (Kd.R_reads' (e := 9) (base := w.heap.size) (ok := fun k_ => ((True ∧ some k_ ≠ (.slice Ao15 y155.length co15 : Value).ownBlock) ∧ some k_ ≠ (.slice Ao29 t181.length co29 : Value).ownBlock)) (n := t168.length) (c := co21) ?_).2.2; exact (by (with_reducible repeat (first | apply Kd.R_alloc | apply Kd.R_drewN | apply Kd.R_drew)); exact (Kd.R_mono (Kd.R_far (p := ⟨gb185, 5, none⟩) (Kd.R_far (p := ⟨gb185, 4, none⟩) (Kd.R_far (p := ⟨gb185, 3, none⟩) (Kd.R_far (p := ⟨gb185, 2, none⟩) (Kd.R_far (p := ⟨gb185, 1, none⟩) (Kd.R_far (p := ⟨gb185, 0, none⟩) (Kd.R_types HO170.out BK185.out (by decide)) (fun _ hk => hk.2) (.int .i64 t174)) (fun _ hk => hk.2) (.bool t175)) (fun _ hk => hk.2) (.int .i64 t176)) (fun _ hk => hk.2) (.string t177)) (fun _ hk => hk.2) (.slice Ao28 t178.length co28)) (fun _ hk => hk.2) (.slice Ao29 t181.length co29)) (fun _ h_ => h_.1)))); (case side4 => exact (Kd.R_reads' HO170.out).2.1); rintro e w31 ⟨rfl, hb⟩; have n0_ := Aside0.mk (Kd.R_below (by (with_reducible repeat (first | apply Kd.R_alloc | apply Kd.R_drewN | apply Kd.R_drew)); exact (Kd.R_mono (Kd.R_far (p := ⟨gb185, 5, none⟩) (Kd.R_far (p := ⟨gb185, 4, none⟩) (Kd.R_far (p := ⟨gb185, 3, none⟩) (Kd.R_far (p := ⟨gb185, 2, none⟩) (Kd.R_far (p := ⟨gb185, 1, none⟩) (Kd.R_far (p := ⟨gb185, 0, none⟩) (Kd.R_types HO157.out BK185.out (by decide)) (fun _ hk => hk.2) (.int .i64 t174)) (fun _ hk => hk.2) (.bool t175)) (fun _ hk => hk.2) (.int .i64 t176)) (fun _ hk => hk.2) (.string t177)) (fun _ hk => hk.2) (.slice Ao28 t178.length co28)) (fun _ hk => hk.2) (.slice Ao29 t181.length co29)) (fun _ h_ => h_.1))) hb); have n1_ := Aside0.mk (Kd.R_below (by (with_reducible repeat (first | apply Kd.R_alloc | apply Kd.R_drewN | apply Kd.R_drew)); exact (Kd.R_mono (Kd.R_far (p := ⟨gb185, 5, none⟩) (Kd.R_far (p := ⟨gb185, 4, none⟩) (Kd.R_far (p := ⟨gb185, 3, none⟩) (Kd.R_far (p := ⟨gb185, 2, none⟩) (Kd.R_far (p := ⟨gb185, 1, none⟩) (Kd.R_far (p := ⟨gb185, 0, none⟩) (Kd.R_mono HO160.out (fun k_ hk => (⟨hk, hk.2⟩ : _ ∧ k_ ≠ gb185))) (fun _ hk => hk.2) (.int .i64 t174)) (fun _ hk => hk.2) (.bool t175)) (fun _ hk => hk.2) (.int .i64 t176)) (fun _ hk => hk.2) (.string t177)) (fun _ hk => hk.2) (.slice Ao28 t178.length co28)) (fun _ hk => hk.2) (.slice Ao29 t181.length co29)) (fun _ h_ => h_.1))) hb); have n2_ := Aside0.mk (Kd.R_below (by (with_reducible repeat (first | apply Kd.R_alloc | apply Kd.R_drewN | apply Kd.R_drew)); exact (Kd.R_mono (Kd.R_far (p := ⟨gb185, 5, none⟩) (Kd.R_far (p := ⟨gb185, 4, none⟩) (Kd.R_far (p := ⟨gb185, 3, none⟩) (Kd.R_far (p := ⟨gb185, 2, none⟩) (Kd.R_far (p := ⟨gb185, 1, none⟩) (Kd.R_far (p := ⟨gb185, 0, none⟩) (Kd.R_mono HO167.out (fun k_ hk => (⟨hk, hk.2⟩ : _ ∧ k_ ≠ gb185))) (fun _ hk => hk.2) (.int .i64 t174)) (fun _ hk => hk.2) (.bool t175)) (fun _ hk => hk.2) (.int .i64 t176)) (fun _ hk => hk.2) (.string t177)) (fun _ hk => hk.2) (.slice Ao28 t178.length co28)) (fun _ hk => hk.2) (.slice Ao29 t181.length co29)) (fun _ h_ => h_.1))) hb); have n3_ := Aside0.mk (Kd.R_below (by (with_reducible repeat (first | apply Kd.R_alloc | apply Kd.R_drewN | apply Kd.R_drew)); exact (Kd.R_mono (Kd.R_far (p := ⟨gb185, 5, none⟩) (Kd.R_far (p := ⟨gb185, 4, none⟩) (Kd.R_far (p := ⟨gb185, 3, none⟩) (Kd.R_far (p := ⟨gb185, 2, none⟩) (Kd.R_far (p := ⟨gb185, 1, none⟩) (Kd.R_far (p := ⟨gb185, 0, none⟩) (Kd.R_types HO170.out BK185.out (by decide)) (fun _ hk => hk.2) (.int .i64 t174)) (fun _ hk => hk.2) (.bool t175)) (fun _ hk => hk.2) (.int .i64 t176)) (fun _ hk => hk.2) (.string t177)) (fun _ hk => hk.2) (.slice Ao28 t178.length co28)) (fun _ hk => hk.2) (.slice Ao29 t181.length co29)) (fun _ h_ => h_.1))) hb); have n4_ := Aside0.mk (Kd.R_below (by (with_reducible repeat (first | apply Kd.R_alloc | apply Kd.R_drewN | apply Kd.R_drew)); exact (Kd.R_mono (Kd.R_far (p := ⟨gb185, 5, none⟩) (Kd.R_far (p := ⟨gb185, 4, none⟩) (Kd.R_far (p := ⟨gb185, 3, none⟩) (Kd.R_far (p := ⟨gb185, 2, none⟩) (Kd.R_far (p := ⟨gb185, 1, none⟩) (Kd.R_far (p := ⟨gb185, 0, none⟩) (Kd.R_mono HO180.out (fun k_ hk => (⟨hk, hk.2⟩ : _ ∧ k_ ≠ gb185))) (fun _ hk => hk.2) (.int .i64 t174)) (fun _ hk => hk.2) (.bool t175)) (fun _ hk => hk.2) (.int .i64 t176)) (fun _ hk => hk.2) (.string t177)) (fun _ hk => hk.2) (.slice Ao28 t178.length co28)) (fun _ hk => hk.2) (.slice Ao29 t181.length co29)) (fun _ h_ => h_.1))) hb); have n5_ := Aside0.mk (Kd.R_below (by (with_reducible repeat (first | apply Kd.R_alloc | apply Kd.R_drewN | apply Kd.R_drew)); exact (Kd.R_mono (Kd.R_far (p := ⟨gb185, 5, none⟩) (Kd.R_far (p := ⟨gb185, 4, none⟩) (Kd.R_far (p := ⟨gb185, 3, none⟩) (Kd.R_far (p := ⟨gb185, 2, none⟩) (Kd.R_far (p := ⟨gb185, 1, none⟩) (Kd.R_far (p := ⟨gb185, 0, none⟩) (Kd.R_types HO183.out BK185.out (by decide)) (fun _ hk => hk.2) (.int .i64 t174)) (fun _ hk => hk.2) (.bool t175)) (fun _ hk => hk.2) (.int .i64 t176)) (fun _ hk => hk.2) (.string t177)) (fun _ hk => hk.2) (.slice Ao28 t178.length co28)) (fun _ hk => hk.2) (.slice Ao29 t181.length co29)) (fun _ h_ => h_.1))) hb); have n6_ := Aside0.mk (qAm (g := gb171) (o := .cells #[.int .i64 t161, .bool t162, .int .i64 t163, .string t164, .slice Ao20 t165.length co20, .slice Ao21 t168.length co21] 25 (0, 0)) (by (with_reducible repeat (first | refine qAg ?_ _ | refine qAi ?_ | refine blk_alloc ?_ _)); refine qBd ?_ NB171_185.out _; (with_reducible repeat (first | refine qAg ?_ _ | refine qAi ?_ | refine blk_alloc ?_ _)); refine qBd ?_ NB171_185.out _; (with_reducible repeat (first | refine qAg ?_ _ | refine qAi ?_ | refine blk_alloc ?_ _)); refine qBd ?_ NB171_185.out _; (with_reducible repeat (first | refine qAg ?_ _ | refine qAi ?_ | refine blk_alloc ?_ _)); refine qBd ?_ NB171_185.out _; (with_reducible repeat (first | refine qAg ?_ _ | refine qAi ?_ | refine blk_alloc ?_ _)); refine qBd ?_ NB171_185.out _; (with_reducible repeat (first | refine qAg ?_ _ | refine qAi ?_ | refine blk_alloc ?_ _)); refine qBd ?_ NB171_185.out _; (with_reducible repeat (first | refine qAg ?_ _ | refine qAi ?_ | refine blk_alloc ?_ _)); exact BK171.out) hb); have n7_ := Aside0.mk (qAm (g := gb185) (o := .cells #[.int .i64 t174, .bool t175, .int .i64 t176, .string t177, .slice Ao28 t178.length co28, .slice Ao29 t181.length co29] 25 (0, 0)) (by (with_reducible repeat (first | refine qAg ?_ _ | refine qAi ?_ | refine blk_alloc ?_ _)); refine qA6 (cs := #[.int .i64 t174, .bool t175, .int .i64 t176, .string t177, .slice Ao28 t178.length co28, .slice none 0 0]) ?_ 5 _ rfl; (with_reducible repeat (first | refine qAg ?_ _ | refine qAi ?_ | refine blk_alloc ?_ _)); refine qA6 (cs := #[.int .i64 t174, .bool t175, .int .i64 t176, .string t177, .slice none 0 0, .slice none 0 0]) ?_ 4 _ rfl; (with_reducible repeat (first | refine qAg ?_ _ | refine qAi ?_ | refine blk_alloc ?_ _)); refine qA6 (cs := #[.int .i64 t174, .bool t175, .int .i64 t176, .string (⟨#[]⟩ : ByteArray), .slice none 0 0, .slice none 0 0]) ?_ 3 _ rfl; (with_reducible repeat (first | refine qAg ?_ _ | refine qAi ?_ | refine blk_alloc ?_ _)); refine qA6 (cs := #[.int .i64 t174, .bool t175, .int .i64 0, .string (⟨#[]⟩ : ByteArray), .slice none 0 0, .slice none 0 0]) ?_ 2 _ rfl; (with_reducible repeat (first | refine qAg ?_ _ | refine qAi ?_ | refine blk_alloc ?_ _)); refine qA6 (cs := #[.int .i64 t174, .bool false, .int .i64 0, .string (⟨#[]⟩ : ByteArray), .slice none 0 0, .slice none 0 0]) ?_ 1 _ rfl; (with_reducible repeat (first | refine qAg ?_ _ | refine qAi ?_ | refine blk_alloc ?_ _)); refine qA6 (cs := #[.int .i64 0, .bool false, .int .i64 0, .string (⟨#[]⟩ : ByteArray), .slice none 0 0, .slice none 0 0]) ?_ 0 _ rfl; (with_reducible repeat (first | refine qAg ?_ _ | refine qAi ?_ | refine blk_alloc ?_ _)); exact BK185.out) hb); have n8_ := Aside0.mk (qAj (by repeat (first | (with_reducible first | exact HB.out | apply qAd | apply qAc | apply qAe | refine qAf ?_ GE171.out | refine qAf ?_ GE185.out) | exact HB.out)) hb); clear HO157; clear HO160; clear HO167; clear HO170; clear HO180; clear HO183; clear BK171; clear BK185; clear HB; have HO157 := n0_; have HO160 := n1_; have HO167 := n2_; have HO170 := n3_; have HO180 := n4_; have HO183 := n5_; have BK171 := n6_; have BK185 := n7_; have HB := n8_; clear n0_ n1_ n2_ n3_ n4_ n5_ n6_ n7_ n8_; (try clear hb); (try clear hb2); (try clear hk); (try clear hi); have hcz32_0 : w31.cell? ⟨gb171, 0, none⟩ = some (.int .i64 t161) := (qAb BK171.out 0).trans rfl; have hcz32_1 : w31.cell? ⟨gb171, 1, none⟩ = some (.bool t162) := (qAb BK171.out 1).trans rfl; have hcz32_2 : w31.cell? ⟨gb171, 2, none⟩ = some (.int .i64 t163) := (qAb BK171.out 2).trans rfl; have hcz32_3 : w31.cell? ⟨gb171, 3, none⟩ = some (.string t164) := (qAb BK171.out 3).trans rfl; have hcz32_4 : w31.cell? ⟨gb171, 4, none⟩ = some (.slice Ao20 t165.length co20) := (qAb BK171.out 4).trans rfl; have hcz32_5 : w31.cell? ⟨gb171, 5, none⟩ = some (.slice Ao21 t168.length co21) := (qAb BK171.out 5).trans rfl; have hfz32_0 := qAa BK171.out 0; have hfz32_1 := qAa BK171.out 1; have hfz32_2 := qAa BK171.out 2; have hfz32_3 := qAa BK171.out 3; have hfz32_4 := qAa BK171.out 4; have hfz32_5 := qAa BK171.out 5) | (go_at_call 23; (with_reducible refine (value_Same.calls t161 t162 t163 t164 _ _ t165 _ _ t168 t161 t162 t163 t164 _ _ t165 _ _ t168 t187 _ ?side1 ?side2 ?side3 ?side4 ?side5 ?side6 ?side7 ?side8 A10.out).mono ?_); (case side1 => repeat (first | exact (Kd.R_reads' HO167.out).2.2 | (with_reducible refine Kd.C_alloc ?_ _) | (with_reducible refine Kd.C_drewN ?_ _) | (with_reducible refine Kd.C_drew ?_))); (case side2 => exact (Kd.R_reads' HO167.out).2.1); (case side3 => repeat (first | exact (Kd.R_reads' HO170.out).2.2 | (with_reducible refine Kd.C_alloc ?_ _) | (with_reducible refine Kd.C_drewN ?_ _) | (with_reducible refine Kd.C_drew ?_))); (case side4 => exact (Kd.R_reads' HO170.out).2.1); (case side5 => repeat (first | exact (Kd.R_reads' HO167.out).2.2 | (with_reducible refine Kd.C_alloc ?_ _) | (with_reducible refine Kd.C_drewN ?_ _) | (with_reducible refine Kd.C_drew ?_))); (case side6 => exact (Kd.R_reads' HO167.out).2.1); (case side7 => repeat (first | exact (Kd.R_reads' HO170.out).2.2 | (with_reducible refine Kd.C_alloc ?_ _) | (with_reducible refine Kd.C_drewN ?_ _) | (with_reducible refine Kd.C_drew ?_))); (case side8 => exact (Kd.R_reads' HO170.out).2.1); rintro e w33 ⟨rfl, hb⟩; have n0_ := Aside0.mk (Kd.R_below (by (with_reducible repeat (first | apply Kd.R_alloc | apply Kd.R_drewN | apply Kd.R_drew)); exact HO157.out) hb); have n1_ := Aside0.mk (Kd.R_below (by (with_reducible repeat (first | apply Kd.R_alloc | apply Kd.R_drewN | apply Kd.R_drew)); exact HO160.out) hb); have n2_ := Aside0.mk (Kd.R_below (by (with_reducible repeat (first | apply Kd.R_alloc | apply Kd.R_drewN | apply Kd.R_drew)); exact HO167.out) hb); have n3_ := Aside0.mk (Kd.R_below (by (with_reducible repeat (first | apply Kd.R_alloc | apply Kd.R_drewN | apply Kd.R_drew)); exact HO170.out) hb); have n4_ := Aside0.mk (Kd.R_below (by (with_reducible repeat (first | apply Kd.R_alloc | apply Kd.R_drewN | apply Kd.R_drew)); exact HO180.out) hb); have n5_ := Aside0.mk (Kd.R_below (by (with_reducible repeat (first | apply Kd.R_alloc | apply Kd.R_drewN | apply Kd.R_drew)); exact HO183.out) hb); have n6_ := Aside0.mk (qAm (g := gb171) (o := .cells #[.int .i64 t161, .bool t162, .int .i64 t163, .string t164, .slice Ao20 t165.length co20, .slice Ao21 t168.length co21] 25 (0, 0)) (by (with_reducible repeat (first | refine qAg ?_ _ | refine qAi ?_ | refine blk_alloc ?_ _)); exact BK171.out) hb); have n7_ := Aside0.mk (qAm (g := gb185) (o := .cells #[.int .i64 t174, .bool t175, .int .i64 t176, .string t177, .slice Ao28 t178.length co28, .slice Ao29 t181.length co29] 25 (0, 0)) (by (with_reducible repeat (first | refine qAg ?_ _ | refine qAi ?_ | refine blk_alloc ?_ _)); exact BK185.out) hb); have n8_ := Aside0.mk (qAj (by repeat (first | (with_reducible first | exact HB.out | apply qAd | apply qAc | apply qAe | refine qAf ?_ GE171.out | refine qAf ?_ GE185.out) | exact HB.out)) hb); clear HO157; clear HO160; clear HO167; clear HO170; clear HO180; clear HO183; clear BK171; clear BK185; clear HB; have HO157 := n0_; have HO160 := n1_; have HO167 := n2_; have HO170 := n3_; have HO180 := n4_; have HO183 := n5_; have BK171 := n6_; have BK185 := n7_; have HB := n8_; clear n0_ n1_ n2_ n3_ n4_ n5_ n6_ n7_ n8_; (try clear hb); (try clear hb2); (try clear hk); (try clear hi)))
      go_ret
      exact ⟨by first | rfl | (simp [qAl, qAk] <;> rfl) | (simp [*, qAl, qAk] <;> rfl), by repeat (first | (with_reducible first | exact HB.out | apply qAd | apply qAc | apply qAe | refine qAf ?_ GE171.out | refine qAf ?_ GE185.out) | exact HB.out)⟩
     ·replace c9 := Bool.eq_false_iff.mpr c9
      subst c9
      have H1 : (some false) = some r := by rw [if_neg (show ¬ (false = true) by decide)] at H; exact H
      clear H
      have H := H1
      clear H1
      exact absurd (H.trans (congrArg some hr_.out)) (by simp)
    ·replace c7 := Bool.eq_false_iff.mpr c7
     subst c7
     have H1 : (some false) = some r := by rw [if_neg (show ¬ (false = true) by decide)] at H; exact H
     clear H
     have H := H1
     clear H1
     exact absurd (H.trans (congrArg some hr_.out)) (by simp)
   ·rw [if_neg c6] at H
    have c6b0 : (t176 == 1) = false := beq_eq_false_iff_ne.mpr c6
    have c6b1 : (t176 != 1) = true := bne_iff_ne.mpr c6
    exact absurd (H.trans (congrArg some hr_.out)) (by simp)
  ·rw [if_neg c5] at H
   have c5b0 : (t173 == 0) = false := beq_eq_false_iff_ne.mpr c5
   have c5b1 : (t173 != 0) = true := bne_iff_ne.mpr c5
   exact absurd (H.trans (congrArg some hr_.out)) (by simp)
 ·rw [if_neg c4] at H
  have c4b0 : (t172.toList == ([123, 34, 97, 34, 58, 116, 114, 117, 101, 44, 34, 98, 34, 58, 49, 125] : List UInt8)) = false := beq_eq_false_iff_ne.mpr c4
  have c4b1 : (t172.toList != ([123, 34, 97, 34, 58, 116, 114, 117, 101, 44, 34, 98, 34, 58, 49, 125] : List UInt8)) = true := bne_iff_ne.mpr c4
  exact absurd (H.trans (congrArg some hr_.out)) (by simp)
end Go.Proofs.YtbnoihpooeombaaDoor.P

namespace Go.Proofs.YtbnoihpooeombaaDoor.X
open Go.RowKit Go.Proofs.YtbnoihpooeombaaDoorW.PrintWords Go.Proofs.YtbnoihpooeombaaDoor.P
set_option linter.unusedVariables false
set_option linter.unusedSimpArgs false
def ofP : List ByteArray → List S25 → List ByteArray → List S25 → List ByteArray × List S25
  | key :: ks, v :: vs, K, V => if isK K key = true then ofP ks vs K V else ofP ks vs (K.take (posK K key) ++ key :: K.drop (posK K key)) (V.take (posK K key) ++ v :: V.drop (posK K key))
  | _, _, K, V => (K, V)
theorem qBt : ∀ (K : List ByteArray) (key : ByteArray), qAw K = true → isK K key = false → qAw (K.take (posK K key) ++ key :: K.drop (posK K key)) = true
  | [], key, _, _ => rfl
  | a :: K, key, hr, hi => by
    obtain ⟨h1, h2⟩ := qCh hr
    by_cases c : lessB a key = true
    · have hp : posK (a :: K) key = posK K key + 1 := by unfold posK; rw [List.takeWhile_cons_of_pos (p := fun s => lessB s key) c, List.length_cons]
      have hi2 : isK K key = false := by
        cases e : isK K key with
        | false => rfl
        | true =>
          have := (qDh K key h1).1 e
          rw [(qDh (a :: K) key hr).2 (List.mem_cons_of_mem _ this)] at hi
          cases hi
      rw [hp, List.take_succ_cons, List.drop_succ_cons, List.cons_append]
      refine qEi (qBt K key h1 hi2) (fun s hs => ?_)
      rcases List.mem_append.1 hs with hs | hs
      · exact h2 s (List.mem_of_mem_take hs)
      · rcases List.mem_cons.1 hs with rfl | hs
        · exact c
        · exact h2 s (List.mem_of_mem_drop hs)
    · have hp : posK (a :: K) key = 0 := by unfold posK; rw [List.takeWhile_cons_of_neg (p := fun s => lessB s key) c]; rfl
      rw [hp, List.take_zero, List.drop_zero, List.nil_append]
      have hne : a ≠ key := fun e => by
        rw [(qDh (a :: K) key hr).2 (e ▸ List.mem_cons_self ..)] at hi; cases hi
      have hka : lessB key a = true := by
        cases e : lessB key a with
        | true => rfl
        | false => exact absurd (qF2 (eq_false_of_ne_true c) e) hne
      refine qEi hr (fun s hs => ?_)
      rcases List.mem_cons.1 hs with rfl | hs
      · exact hka
      · exact qC2 hka (h2 s hs)
theorem qEz : ∀ (ks : List ByteArray) (vs : List S25) (K : List ByteArray) (V : List S25), qAw K = true → K.length + ks.length ≤ 200000 → Ev (fun k => ofL k ks vs K V) (ofP ks vs K V)
  | [], vs, K, V, _, _ => by
    cases vs <;> exact Ev.now _
  | _ :: _, [], K, V, _, _ => Ev.now _
  | key :: ks, v :: vs, K, V, hr, hn => by
    obtain ⟨K1, h1⟩ := qEe K key hr (by omega)
    rw [List.length_cons] at hn
    cases hi : isK K key with
    | true =>
      obtain ⟨K2, h2⟩ := qEz ks vs K V hr (by omega)
      refine ⟨K1 + K2, fun k hk => ?_⟩
      have h1 := h1 k (by omega)
      have h2 := h2 k (by omega)
      simp only at h1 h2
      show ofL k _ _ _ _ = _
      rw [ofL, h1, ofP, if_pos hi]
      simp only [Option.bind_some]
      rw [if_pos hi]
      exact h2
    | false =>
      obtain ⟨K2, h2⟩ := qEz ks vs (K.take (posK K key) ++ key :: K.drop (posK K key)) (V.take (posK K key) ++ v :: V.drop (posK K key)) (qBt K key hr hi) (by
        simp only [List.length_append, List.length_cons, List.length_take, List.length_drop]; omega)
      refine ⟨K1 + K2, fun k hk => ?_⟩
      have h1 := h1 k (by omega)
      have h2 := h2 k (by omega)
      simp only at h1 h2
      have hp := qDb K key
      show ofL k _ _ _ _ = _
      rw [ofL, h1, ofP, if_neg (by rw [hi]; decide)]
      simp only [Option.bind_some]
      rw [if_neg (by rw [hi]; decide), if_pos ⟨by omega, by omega⟩]
      exact h2
theorem of_val (ks : List ByteArray) (vs : List S25) (hn : ks.length ≤ 100000) : Ev (fun k => value_Of.f k ks vs) (ofR (ofP ks vs [] []).1 (ofP ks vs [] []).2) := by
  obtain ⟨K, hK⟩ := qEz ks vs [] [] rfl (by simp; omega)
  refine ⟨K, fun k hk => ?_⟩
  have hK := hK k hk
  simp only at hK
  show value_Of.f k ks vs = _
  unfold value_Of.f
  rw [if_pos hn, hK]
  rfl
def awV : S25 := ⟨5, false, 0, ⟨#[]⟩, [⟨1, true, 0, ⟨#[]⟩, [], []⟩, ⟨2, false, 1, ⟨#[]⟩, [], []⟩], [⟨#[97]⟩, ⟨#[98]⟩]⟩
theorem qHm : ofP [⟨#[98]⟩, ⟨#[97]⟩] [⟨2, false, 1, ⟨#[]⟩, [], []⟩, ⟨1, true, 0, ⟨#[]⟩, [], []⟩] [] [] = ([⟨#[97]⟩, ⟨#[98]⟩], [⟨1, true, 0, ⟨#[]⟩, [], []⟩, ⟨2, false, 1, ⟨#[]⟩, [], []⟩]) := by
  simp [ofP, isK, posK, lessB, ByteArray.toList_eq, Op.bytesLess]
theorem awT : T 2 4000 awV := by
  refine ⟨⟨by decide, by decide, ?_, ?_⟩, by decide⟩
  · intro s hs
    simp only [awV, List.mem_cons, List.not_mem_nil, or_false] at hs
    rcases hs with rfl | rfl <;> decide
  · intro y hy
    simp only [awV, List.mem_cons, List.not_mem_nil, or_false] at hy
    rcases hy with rfl | rfl <;> (refine ⟨by decide, by decide, ?_, ?_⟩ <;> (intro s hs; cases hs))
theorem awGood : goodV 16 awV = true := by
  simp [goodV, awV, qBc, qAw, ByteArray.toList_eq, Op.bytesLess]
  rfl
theorem awText : (textB 16 awV).toList = [123, 34, 97, 34, 58, 116, 114, 117, 101, 44, 34, 98, 34, 58, 49, 125] := by
  have h : textI 16 awV = [123, 34, 97, 34, 58, 116, 114, 117, 101, 44, 34, 98, 34, 58, 49, 125] := by
    have h1 : itoaB 1 = ⟨#[49]⟩ := by
      unfold itoaB Lib.itoa
      rw [if_neg (by decide), Lib.decDigits_one (by decide)]
      rfl
    rw [text_5 15 awV rfl]
    simp only [awV, qAt]
    rw [text_1 14 _ rfl, text_2 14 _ rfl]
    simp only [h1, if_true]
    rfl
  rw [textB, h, ByteArray.toList_eq]
  rfl
theorem qDx : Ev (fun k => hogsheadlaw15_awake.f k) true := by
  obtain ⟨K1, h1⟩ := of_val [⟨#[98]⟩, ⟨#[97]⟩] [⟨2, false, 1, ⟨#[]⟩, [], []⟩, ⟨1, true, 0, ⟨#[]⟩, [], []⟩] (by simp)
  obtain ⟨K2, h2⟩ := qHw awT
  obtain ⟨K3, h3⟩ := qHy ⟨#[98]⟩ awT
  rw [qHm] at h1
  have hr : ofR [⟨#[97]⟩, ⟨#[98]⟩] [⟨1, true, 0, ⟨#[]⟩, [], []⟩, ⟨2, false, 1, ⟨#[]⟩, [], []⟩] = (5, false, 0, ⟨#[]⟩, [⟨1, true, 0, ⟨#[]⟩, [], []⟩, ⟨2, false, 1, ⟨#[]⟩, [], []⟩], [⟨#[97]⟩, ⟨#[98]⟩]) := by
    have h : (mayV 16 ⟨5, false, 0, ByteArray.empty, [⟨1, true, 0, ⟨#[]⟩, [], []⟩, ⟨2, false, 1, ⟨#[]⟩, [], []⟩], [⟨#[97]⟩, ⟨#[98]⟩]⟩ 0).2 = true := (qB9 2 awV awT).trans awGood
    unfold ofR
    rw [if_pos h]
    rfl
  refine ⟨K1 + K2 + K3, fun k hk => ?_⟩
  have h1 := h1 k (by omega)
  have h2 := h2 k (by omega)
  have h3 := h3 k (by omega)
  simp only at h1 h2 h3
  rw [hr] at h1
  rw [if_pos awGood] at h2
  have hget : getV awV ⟨#[98]⟩ = some ⟨2, false, 1, ⟨#[]⟩, [], []⟩ := by
    unfold getV
    rw [if_pos ⟨rfl, awGood, by simp [awV, isK, posK, lessB, ByteArray.toList_eq, Op.bytesLess]⟩]
    simp [awV, posK, lessB, ByteArray.toList_eq, Op.bytesLess]
  rw [hget] at h3
  have h4 := qE1 awT
  have h5 := qG8 awT awT
  have h6 : sameB awV awV = true := by
    unfold sameB
    rw [awGood, (qEg 16 awV awV awGood).2 rfl]
    rfl
  rw [awGood] at h4
  rw [h6] at h5
  show hogsheadlaw15_awake.f k = _
  unfold hogsheadlaw15_awake.f
  rw [h1]
  simp only [Option.bind_some]
  simp only [awV] at h2 h3 h4 h5
  rw [h2]
  simp only [Option.bind_some]
  rw [h3]
  simp only [Option.bind_some]
  have ht := awText
  simp only [awV] at ht
  rw [if_pos ht, if_pos trivial]
  simp only [tup, Option.getD_some, Option.isSome_some]
  rw [if_pos trivial, if_pos trivial, h4]
  simp only [Option.bind_some]
  rw [if_pos trivial, h5]
  rfl
theorem qEt {k : Nat} {r : Bool} (h : hogsheadlaw15_awake.f k = some r) : r = true := by
  obtain ⟨K, hK⟩ := qDx
  have h1 := hK (k + K) (by omega)
  have h2 := qG2 (g := fun k => hogsheadlaw15_awake.f k) (fun k => hogsheadlaw15_awake.mono k) (show k ≤ k + K by omega) h
  simp only at h1 h2
  rw [h1] at h2
  exact (Option.some.inj h2).symm
theorem hogsheadlaw15_awake.calls (k : Nat) (r : Bool) (w : World) (hT : Aside0 (Tabs w)) (h : hogsheadlaw15_awake.f k = some r) :
    Calls Tryd.prog 15 #[] w fun e w' => e = .returned (.bool r) ∧ Below w.heap.size w w' := hogsheadlaw15_awake.calls_true k r w hT h ⟨qEt h⟩
end Go.Proofs.YtbnoihpooeombaaDoor.X

namespace Go.Proofs.YtbnoihpooeombaaDoor.P
open Go.Proofs.YtbnoihpooeombaaDoor.X
open Go.RowKit Go.Proofs.YtbnoihpooeombaaDoorW.PrintWords Go.Proofs.YtbnoihpooeombaaDoorW.PrintLast Go.Proofs.YtbnoihpooeombaaDoorW.PrintMore
attribute [local go_sem] qAr qAx
set_option linter.unusedVariables false
set_option linter.unusedSimpArgs false
mutual
def hogsheadlaw15_ValueQuotes.j0 : Nat → ByteArray → ByteArray → Bool → Option (Bool)
 | 0, _, _, _ => none
 | k + 1, x0, x1, x17 => if x17 = true then ((hogsheadlaw15_awake.f k).bind fun t371 => (some t371)) else ((value_Quote.f k x0).bind fun t372 => ((value_Quote.f k x1).bind fun t373 => (hogsheadlaw15_ValueQuotes.l0 k x0 x1 t372 t373 true 0)))
def hogsheadlaw15_ValueQuotes.l0 : Nat → ByteArray → ByteArray → ByteArray → ByteArray → Bool → Int → Option (Bool)
 | 0, _, _, _, _, _, _ => none
 | k + 1, x0, x1, x5, x6, x7, x8 => if x8 < (x0.size : Int) then (if x7 = true then (if 0 ≤ x8 then (if (bt x0 x8) ≥ 32 then (if (bt x0 x8) ≤ 126 then (if (bt x0 x8) = 34 then (hogsheadlaw15_ValueQuotes.l0 k x0 x1 x5 x6 false (wrap64 (x8 + 1))) else (hogsheadlaw15_ValueQuotes.l0 k x0 x1 x5 x6 ((bt x0 x8) != 92) (wrap64 (x8 + 1)))) else (hogsheadlaw15_ValueQuotes.l0 k x0 x1 x5 x6 false (wrap64 (x8 + 1)))) else (hogsheadlaw15_ValueQuotes.l0 k x0 x1 x5 x6 false (wrap64 (x8 + 1)))) else (none)) else (hogsheadlaw15_ValueQuotes.l0 k x0 x1 x5 x6 false (wrap64 (x8 + 1)))) else (hogsheadlaw15_ValueQuotes.l1 k x0 x1 x5 x6 x7 0)
def hogsheadlaw15_ValueQuotes.l1 : Nat → ByteArray → ByteArray → ByteArray → ByteArray → Bool → Int → Option (Bool)
 | 0, _, _, _, _, _, _ => none
 | k + 1, x0, x1, x5, x6, x7, x9 => if x9 < (x5.size : Int) then (if 0 ≤ x9 then (if (bt x5 x9) < 32 then (some false) else (if (bt x5 x9) > 126 then (some false) else (hogsheadlaw15_ValueQuotes.l1 k x0 x1 x5 x6 x7 (wrap64 (x9 + 1))))) else (none)) else (if ((x5.toList == x6.toList) == (x0.toList == x1.toList)) = true then (if (((x5.size : Int) == (wrap64 ((x0.size : Int) + 2))) == x7) = true then (if x7 = true then (if 1 + x0.size ≤ 9223372036854775807 then (if ((⟨#[34]⟩ : ByteArray) ++ x0).size + 1 ≤ 9223372036854775807 then (if x5.toList = (((⟨#[34]⟩ : ByteArray) ++ x0) ++ (⟨#[34]⟩ : ByteArray)).toList then ((hogsheadlaw15_awake.f k).bind fun t374 => (some t374)) else (some false)) else (none)) else (none)) else ((hogsheadlaw15_awake.f k).bind fun t375 => (some t375))) else (some false)) else (some false))
end
def hogsheadlaw15_ValueQuotes.f (k : Nat) (a0 : ByteArray) (a1 : ByteArray) : Option (Bool) := if (a0.size : Int) > 100 then (hogsheadlaw15_ValueQuotes.j0 k a0 a1 true) else (hogsheadlaw15_ValueQuotes.j0 k a0 a1 (decide ((a1.size : Int) > 100)))
end Go.Proofs.YtbnoihpooeombaaDoor.P

namespace Go.Proofs.YtbnoihpooeombaaDoor.P
open Go.Proofs.YtbnoihpooeombaaDoor.X
open Go.RowKit Go.Proofs.YtbnoihpooeombaaDoorW.PrintWords Go.Proofs.YtbnoihpooeombaaDoorW.PrintLast Go.Proofs.YtbnoihpooeombaaDoorW.PrintMore
attribute [local go_sem] qAr qAx
set_option linter.unusedVariables false
set_option linter.unusedSimpArgs false
def hogsheadlaw0_Low.f (a0 : Int) (a1 : Int) : Option (Int) := if (IntKind.u64.wrap (a1)) = 0 then (none) else (some (wrap64 (Int.tmod (IntKind.u64.wrap (a0)) (IntKind.u64.wrap (a1)))))
end Go.Proofs.YtbnoihpooeombaaDoor.P

namespace Go.Proofs.YtbnoihpooeombaaDoor.P
open Go.Proofs.YtbnoihpooeombaaDoor.X
open Go.RowKit Go.Proofs.YtbnoihpooeombaaDoorW.PrintWords Go.Proofs.YtbnoihpooeombaaDoorW.PrintLast Go.Proofs.YtbnoihpooeombaaDoorW.PrintMore
attribute [local go_sem] qAr qAx
set_option linter.unusedVariables false
set_option linter.unusedSimpArgs false
def hogsheadlaw15_ValueDeep.l0 : Nat → Int → Int → Int → Int → Bool → Int → ByteArray → List (S25) → Option (Bool)
 | 0, _, _, _, _, _, _, _, _ => none
 | k + 1, x0, x1, x6, x379000, x379001, x379002, x379003, x379004 => if x6 < x0 then (hogsheadlaw15_ValueDeep.l0 k x0 x1 (wrap64 (x6 + 1)) 4 false 0 (⟨#[]⟩ : ByteArray) (([(⟨x379000, x379001, x379002, x379003, x379004, ([] : List ByteArray)⟩ : S25)] : List (S25)))) else (if 0 ≤ x1 then (if (x1 : Int).toNat ≤ 3198579280802 then ((value_Lay.f k x379000 x379001 x379002 x379003 x379004 ([] : List ByteArray)).bind fun bt386 => ((value_May.f x379000 x379001 x379002 x379003 x379004 ([] : List ByteArray)).bind fun t388 => (if (t388 == (decide (x0 ≤ 16))) = true then (if ((bt386.2 == 0) == (decide (x0 ≤ 16))) = true then ((value_May.f 4 false 0 (⟨#[]⟩ : ByteArray) (List.replicate (x1 : Int).toNat z25) ([] : List ByteArray)).bind fun t389 => (if (t389 == (decide ((wrap64 (x1 + 1)) ≤ 4000))) = true then ((hogsheadlaw15_awake.f k).bind fun t390 => (some t390)) else (some false))) else (some false)) else (some false)))) else (none)) else (none))
def hogsheadlaw15_ValueDeep.f (k : Nat) (a0 : Int) (a1 : Int) : Option (Bool) := (hogsheadlaw0_Low.f a0 20).bind fun t376 => ((hogsheadlaw0_Low.f a1 4010).bind fun t377 => (hogsheadlaw15_ValueDeep.l0 k (wrap64 (1 + t376)) t377 1 0 false 0 (⟨#[]⟩ : ByteArray) ([] : List (S25))))
end Go.Proofs.YtbnoihpooeombaaDoor.P

namespace Go.Proofs.YtbnoihpooeombaaDoor.P
open Go.Proofs.YtbnoihpooeombaaDoor.X
open Go.RowKit Go.Proofs.YtbnoihpooeombaaDoorW.PrintWords Go.Proofs.YtbnoihpooeombaaDoorW.PrintLast Go.Proofs.YtbnoihpooeombaaDoorW.PrintMore
attribute [local go_sem] qAr qAx
set_option linter.unusedVariables false
set_option linter.unusedSimpArgs false
mutual
def hogsheadlaw15_great.l0 : Nat → List (S25) → Int → Int → Option (Bool)
 | 0, _, _, _ => none
 | k + 1, x0, x3, x4 => if x4 < (x0.length : Int) then (hogsheadlaw15_great.j1 k x0 x3 x4 (decide ((x0.length : Int) ≤ 12))) else (hogsheadlaw15_great.j1 k x0 x3 x4 false)
def hogsheadlaw15_great.j1 : Nat → List (S25) → Int → Int → Bool → Option (Bool)
 | 0, _, _, _, _ => none
 | k + 1, x0, x3, x4, x13 => if x13 = true then (if 0 ≤ x4 then (if x4 < (x0.length : Int) then ((hogsheadlaw0_GreatValue.f k ((rd_T25 x0 x4).f0) ((rd_T25 x0 x4).f1) ((rd_T25 x0 x4).f2) ((rd_T25 x0 x4).f3) ((rd_T25 x0 x4).f4) ((rd_T25 x0 x4).f5) 60).bind fun t290 => (if t290 = true then (some true) else (hogsheadlaw15_great.l0 k x0 (wrap64 (x3 + 1)) (wrap64 (x4 + 1))))) else (none)) else (none)) else (some (x3 != (x0.length : Int)))
end
def hogsheadlaw15_great.f (k : Nat) (l0 : List (S25)) : Option (Bool) := hogsheadlaw15_great.l0 k l0 0 0
set_option maxHeartbeats 8000000 in
set_option maxRecDepth 100000 in
theorem hogsheadlaw15_great.calls (k : Nat) (A0 : Option Addr) (c0 : Nat) (l0 : List (S25)) (r : Bool) (w : World) (hr0 : Kd.C k25 w A0 l0.length l0) (hc0 : l0.length ≤ c0) (h : hogsheadlaw15_great.f k l0 = some r) :
  Calls Tryd.prog 29 #[.slice A0 l0.length c0] w fun e w' => e = .returned (.bool r) ∧ Below w.heap.size w w' := by
 have hu25 := Tryd.underlying25
 have HR0 := Aside0.mk hr0
 have HC0 := Aside0.mk hc0
 clear hr0 hc0
 have HB := Aside0.mk (Below.refl w.heap.size w)
 have H : (hogsheadlaw15_great.l0 k l0 0 0) = some r := h
 clear h
 have H' := Aside0.mk H
 clear H
 go_enter Tryd.func29, Tryd.ntmps29
 go_wp2
 go_loopg [3, 4] k (fun kq v3 v4 w' => ∃ (x3_1 : Int) (x4_1 : Int), v3 = .int .i64 x3_1 ∧ v4 = .int .i64 x4_1 ∧ Aside0 (hogsheadlaw15_great.l0 kq l0 x3_1 x4_1 = some r) ∧ Aside0 (kq ≤ k) ∧ Aside0 (Below w.heap.size w w'))
 case atStart => exact ⟨(0), (0), (by first | rfl | (simp; done) | (simp [*]; done) | exact congrArg Value.bool (nil_ne _) | exact congrArg Value.bool (nil_eq _) | exact congrArg Value.bool (nil_ne' _)), (by first | rfl | (simp; done) | (simp [*]; done) | exact congrArg Value.bool (nil_ne _) | exact congrArg Value.bool (nil_eq _) | exact congrArg Value.bool (nil_ne' _)), H', ⟨Nat.le_refl _⟩, ⟨by repeat (first | (with_reducible first | exact HB.out | apply qAd | apply qAc | apply qAe) | exact HB.out)⟩⟩
 case round =>
  clear H'
  obtain ⟨x3_1, x4_1, rfl, rfl, HA, HK1, HB⟩ := hrel
  cases gk with
  | zero => exact absurd HA.out (by simp [hogsheadlaw15_great.l0])
  | succ k1 =>
   have H := HA.out
   clear HA
   simp only [hogsheadlaw15_great.l0] at H
   have HC2 := Aside0.mk H
   clear H
   go_upto_region 3 with (fail)
   go_cut [13] (fun v13 wc => ∃ (kq : Nat) (x13_1 : Bool), v13 = .bool x13_1 ∧ Aside0 (hogsheadlaw15_great.j1 kq l0 x3_1 x4_1 x13_1 = some r) ∧ Aside0 (kq ≤ k1) ∧ Aside0 (Below w.heap.size w wc))
   case first =>
    have H := HC2.out
    clear HC2
    by_cases c3 : x4_1 < (l0.length : Int)
    ·rw [if_pos c3] at H
     have c3b0 : decide (x4_1 < (l0.length : Int)) = true := decide_eq_true c3
     clear c3
     (first | rw [c3b0] | (simp only [i64_w, i32_w]; rw [c3b0]) | skip)
     have H' := Aside0.mk H
     clear H
     go_wp2
     go_meet
     case rel => exact ⟨_, (decide ((l0.length : Int) ≤ 12)), (by first | rfl | (simp; done) | (simp [*]; done) | exact congrArg Value.bool (nil_ne _) | exact congrArg Value.bool (nil_eq _) | exact congrArg Value.bool (nil_ne' _)), H', ⟨by have := HK1.out; first | omega | exact Nat.le_refl _⟩, ⟨by repeat (first | (with_reducible first | exact HB.out | apply qAd | apply qAc | apply qAe) | exact HB.out)⟩⟩
    ·rw [if_neg c3] at H
     have c3b0 : decide (x4_1 < (l0.length : Int)) = false := decide_eq_false c3
     clear c3
     (first | rw [c3b0] | (simp only [i64_w, i32_w]; rw [c3b0]) | skip)
     have H' := Aside0.mk H
     clear H
     go_wp2
     go_meet
     case rel => exact ⟨_, (false), (by first | rfl | (simp; done) | (simp [*]; done) | exact congrArg Value.bool (nil_ne _) | exact congrArg Value.bool (nil_eq _) | exact congrArg Value.bool (nil_ne' _)), H', ⟨by have := HK1.out; first | omega | exact Nat.le_refl _⟩, ⟨by repeat (first | (with_reducible first | exact HB.out | apply qAd | apply qAc | apply qAe) | exact HB.out)⟩⟩
   case rest =>
    clear HC2
    try clear c2
    try clear p2
    try clear c3
    try clear c3b0
    obtain ⟨kq, x13_1, rfl, HA, HJ1, HB⟩ := hcut
    cases kq with
    | zero => exact absurd HA.out (by simp [hogsheadlaw15_great.j1])
    | succ kj1 =>
     have H := HA.out
     clear HA
     simp only [hogsheadlaw15_great.j1] at H
     by_cases c4 : x13_1 = true
     ·subst c4
      have H1 : (if 0 ≤ x4_1 then (if x4_1 < (l0.length : Int) then ((hogsheadlaw0_GreatValue.f kj1 ((rd_T25 l0 x4_1).f0) ((rd_T25 l0 x4_1).f1) ((rd_T25 l0 x4_1).f2) ((rd_T25 l0 x4_1).f3) ((rd_T25 l0 x4_1).f4) ((rd_T25 l0 x4_1).f5) 60).bind fun t290 => (if t290 = true then (some true) else (hogsheadlaw15_great.l0 kj1 l0 (wrap64 (x3_1 + 1)) (wrap64 (x4_1 + 1))))) else (none)) else (none)) = some r := by rw [if_pos rfl] at H; exact H
      clear H
      have H := H1
      clear H1
      by_cases c5 : 0 ≤ x4_1
      ·rw [if_pos c5] at H
       have c5b0 : decide (0 ≤ x4_1) = true := decide_eq_true c5
       clear c5
       by_cases c6 : x4_1 < (l0.length : Int)
       ·rw [if_pos c6] at H
        have c6b0 : decide (x4_1 < (l0.length : Int)) = true := decide_eq_true c6
        clear c6
        replace H := Option.bind_eq_some_iff.mp H
        obtain ⟨t290, A70, H⟩ := H
        replace H : (if t290 = true then (some true) else (hogsheadlaw15_great.l0 kj1 l0 (wrap64 (x3_1 + 1)) (wrap64 (x4_1 + 1)))) = some r := H
        have A7 := Aside0.mk A70
        clear A70
        by_cases c8 : t290 = true
        ·subst c8
         have H1 : (some true) = some r := by rw [if_pos rfl] at H; exact H
         clear H
         have H := H1
         clear H1
         obtain rfl := Option.some.inj H
         have p289 : 0 ≤ (x4_1 : Int) := of_decide_eq_true (by first | (with_reducible assumption) | assumption)
         have q289 : x4_1 < (l0.length : Int) := of_decide_eq_true (by first | (with_reducible assumption) | assumption)
         obtain ⟨ad289, A289_4, c289_4, A289_5, c289_5, e289, hx289_0, hx289_1, hx289_2, hx289_3, hx289_4, hx289_5, hl289_4, hi289_4, hl289_5, hi289_5⟩ := at_T25 HR0.out x4_1 p289 q289
         cases e289
         replace hx289_0 := (HB.out.cell (World.block_lt_of_cell? w _ hx289_0)).trans hx289_0
         replace hx289_1 := (HB.out.cell (World.block_lt_of_cell? w _ hx289_1)).trans hx289_1
         replace hx289_2 := (HB.out.cell (World.block_lt_of_cell? w _ hx289_2)).trans hx289_2
         replace hx289_3 := (HB.out.cell (World.block_lt_of_cell? w _ hx289_3)).trans hx289_3
         replace hx289_4 := (HB.out.cell (World.block_lt_of_cell? w _ hx289_4)).trans hx289_4
         replace hx289_5 := (HB.out.cell (World.block_lt_of_cell? w _ hx289_5)).trans hx289_5
         have HR289_4 := Aside0.mk hi289_4
         have HC289_4 := Aside0.mk hl289_4
         clear hi289_4 hl289_4
         have HR289_5 := Aside0.mk hi289_5
         have HC289_5 := Aside0.mk hl289_5
         clear hi289_5 hl289_5
         replace p289 := eq_true p289
         replace q289 := eq_true q289
         go_wp2_with (first | ((with_reducible refine qAp (f := 14) rfl ?_); refine goesL_ (some 20) rfl rfl Tryd.func14 (by kernel_rfl) rfl #[.agg #[.int .i64 ((rd_T25 l0 x4_1).f0), .bool ((rd_T25 l0 x4_1).f1), .int .i64 ((rd_T25 l0 x4_1).f2), .string ((rd_T25 l0 x4_1).f3), .slice A289_4 ((rd_T25 l0 x4_1).f4).length c289_4, .slice A289_5 ((rd_T25 l0 x4_1).f5).length c289_5], .int .i64 60] rfl (by (try simp only [List.map_toArray, List.map_cons, List.map_nil]); first | done | rfl | (simp only [List.length_drop, List.length_take]; rfl)) ?_; (with_reducible refine (hogsheadlaw0_GreatValue.calls kj1 ((rd_T25 l0 x4_1).f0) ((rd_T25 l0 x4_1).f1) ((rd_T25 l0 x4_1).f2) ((rd_T25 l0 x4_1).f3) _ _ ((rd_T25 l0 x4_1).f4) _ _ ((rd_T25 l0 x4_1).f5) 60 true _ ?side1 ?side2 ?side3 ?side4 A7.out).mono ?_); (case side1 => repeat (first | exact (Kd.C_below HR289_4.out HB.out) | (with_reducible refine Kd.C_alloc ?_ _) | (with_reducible refine Kd.C_drewN ?_ _) | (with_reducible refine Kd.C_drew ?_))); (case side2 => exact HC289_4.out); (case side3 => repeat (first | exact (Kd.C_below HR289_5.out HB.out) | (with_reducible refine Kd.C_alloc ?_ _) | (with_reducible refine Kd.C_drewN ?_ _) | (with_reducible refine Kd.C_drew ?_))); (case side4 => exact HC289_5.out); rintro e w9 ⟨rfl, hb⟩; refine ⟨_, rfl, ?_⟩; have n0_ := Aside0.mk (qAj (by repeat (first | (with_reducible first | exact HB.out | apply qAd | apply qAc | apply qAe) | exact HB.out)) hb); clear HB; have HB := n0_; clear n0_; (try clear hb); (try clear hb2); (try clear hk); (try clear hi)))
         go_ret
         exact ⟨by first | rfl | (simp [qAl, qAk] <;> rfl) | (simp [*, qAl, qAk] <;> rfl), by repeat (first | (with_reducible first | exact HB.out | apply qAd | apply qAc | apply qAe) | exact HB.out)⟩
        ·replace c8 := Bool.eq_false_iff.mpr c8
         subst c8
         have H1 : (hogsheadlaw15_great.l0 kj1 l0 (wrap64 (x3_1 + 1)) (wrap64 (x4_1 + 1))) = some r := by rw [if_neg (show ¬ (false = true) by decide)] at H; exact H
         clear H
         have H := H1
         clear H1
         have H' := Aside0.mk H
         clear H
         have p289 : 0 ≤ (x4_1 : Int) := of_decide_eq_true (by first | (with_reducible assumption) | assumption)
         have q289 : x4_1 < (l0.length : Int) := of_decide_eq_true (by first | (with_reducible assumption) | assumption)
         obtain ⟨ad289, A289_4, c289_4, A289_5, c289_5, e289, hx289_0, hx289_1, hx289_2, hx289_3, hx289_4, hx289_5, hl289_4, hi289_4, hl289_5, hi289_5⟩ := at_T25 HR0.out x4_1 p289 q289
         cases e289
         replace hx289_0 := (HB.out.cell (World.block_lt_of_cell? w _ hx289_0)).trans hx289_0
         replace hx289_1 := (HB.out.cell (World.block_lt_of_cell? w _ hx289_1)).trans hx289_1
         replace hx289_2 := (HB.out.cell (World.block_lt_of_cell? w _ hx289_2)).trans hx289_2
         replace hx289_3 := (HB.out.cell (World.block_lt_of_cell? w _ hx289_3)).trans hx289_3
         replace hx289_4 := (HB.out.cell (World.block_lt_of_cell? w _ hx289_4)).trans hx289_4
         replace hx289_5 := (HB.out.cell (World.block_lt_of_cell? w _ hx289_5)).trans hx289_5
         have HR289_4 := Aside0.mk hi289_4
         have HC289_4 := Aside0.mk hl289_4
         clear hi289_4 hl289_4
         have HR289_5 := Aside0.mk hi289_5
         have HC289_5 := Aside0.mk hl289_5
         clear hi289_5 hl289_5
         replace p289 := eq_true p289
         replace q289 := eq_true q289
         go_wp2_with (first | ((with_reducible refine qAp (f := 14) rfl ?_); refine goesL_ (some 20) rfl rfl Tryd.func14 (by kernel_rfl) rfl #[.agg #[.int .i64 ((rd_T25 l0 x4_1).f0), .bool ((rd_T25 l0 x4_1).f1), .int .i64 ((rd_T25 l0 x4_1).f2), .string ((rd_T25 l0 x4_1).f3), .slice A289_4 ((rd_T25 l0 x4_1).f4).length c289_4, .slice A289_5 ((rd_T25 l0 x4_1).f5).length c289_5], .int .i64 60] rfl (by (try simp only [List.map_toArray, List.map_cons, List.map_nil]); first | done | rfl | (simp only [List.length_drop, List.length_take]; rfl)) ?_; (with_reducible refine (hogsheadlaw0_GreatValue.calls kj1 ((rd_T25 l0 x4_1).f0) ((rd_T25 l0 x4_1).f1) ((rd_T25 l0 x4_1).f2) ((rd_T25 l0 x4_1).f3) _ _ ((rd_T25 l0 x4_1).f4) _ _ ((rd_T25 l0 x4_1).f5) 60 false _ ?side1 ?side2 ?side3 ?side4 A7.out).mono ?_); (case side1 => repeat (first | exact (Kd.C_below HR289_4.out HB.out) | (with_reducible refine Kd.C_alloc ?_ _) | (with_reducible refine Kd.C_drewN ?_ _) | (with_reducible refine Kd.C_drew ?_))); (case side2 => exact HC289_4.out); (case side3 => repeat (first | exact (Kd.C_below HR289_5.out HB.out) | (with_reducible refine Kd.C_alloc ?_ _) | (with_reducible refine Kd.C_drewN ?_ _) | (with_reducible refine Kd.C_drew ?_))); (case side4 => exact HC289_5.out); rintro e w10 ⟨rfl, hb⟩; refine ⟨_, rfl, ?_⟩; have n0_ := Aside0.mk (qAj (by repeat (first | (with_reducible first | exact HB.out | apply qAd | apply qAc | apply qAe) | exact HB.out)) hb); clear HB; have HB := n0_; clear n0_; (try clear hb); (try clear hb2); (try clear hk); (try clear hi)))
         go_roundg kj1
         case measure => have := HK1.out; have := HJ1.out; omega
         case rel => exact ⟨(wrap64 (x3_1 + 1)), (wrap64 (x4_1 + 1)), (by first | rfl | (simp; done) | (simp [*]; done) | exact congrArg Value.bool (nil_ne _) | exact congrArg Value.bool (nil_eq _) | exact congrArg Value.bool (nil_ne' _)), (by first | rfl | (simp; done) | (simp [*]; done) | exact congrArg Value.bool (nil_ne _) | exact congrArg Value.bool (nil_eq _) | exact congrArg Value.bool (nil_ne' _)), H', ⟨by have := HK1.out; have := HJ1.out; omega⟩, ⟨by repeat (first | (with_reducible first | exact HB.out | apply qAd | apply qAc | apply qAe) | exact HB.out)⟩⟩
       ·rw [if_neg c6] at H
        exact absurd H (by simp)
      ·rw [if_neg c5] at H
       exact absurd H (by simp)
     ·replace c4 := Bool.eq_false_iff.mpr c4
      subst c4
      have H1 : (some (x3_1 != (l0.length : Int))) = some r := by rw [if_neg (show ¬ (false = true) by decide)] at H; exact H
      clear H
      have H := H1
      clear H1
      obtain rfl := Option.some.inj H
      go_wp2
      go_ret
      exact ⟨by first | rfl | (simp [qAl, qAk] <;> rfl) | (simp [*, qAl, qAk] <;> rfl), by repeat (first | (with_reducible first | exact HB.out | apply qAd | apply qAc | apply qAe) | exact HB.out)⟩
end Go.Proofs.YtbnoihpooeombaaDoor.P

namespace Go.Proofs.YtbnoihpooeombaaDoor.X
open Go.RowKit Go.Proofs.YtbnoihpooeombaaDoorW.PrintWords Go.Proofs.YtbnoihpooeombaaDoor.P
set_option linter.unusedVariables false
set_option linter.unusedSimpArgs false
theorem qHh (vs : List S25) (hn : vs.length ≤ 12) : ∀ (j i : Nat), vs.length - i = j → i ≤ vs.length → ∃ b, Ev (fun k => hogsheadlaw15_great.l0 k vs (i : Int) (i : Int)) b ∧ (b = false → ∀ v ∈ vs.drop i, Small 60 v) := by
  intro j
  induction j with
  | zero =>
    intro i hj hi
    refine ⟨false, ⟨2, fun k hk => ?_⟩, fun _ v hv => ?_⟩
    · obtain ⟨k, rfl⟩ : ∃ m, k = m + 2 := ⟨k - 2, by omega⟩
      simp only [hogsheadlaw15_great.l0]
      rw [if_neg (by omega)]
      simp only [hogsheadlaw15_great.j1]
      rw [if_neg (by decide)]
      have : i = vs.length := by omega
      subst this
      simp
    · rw [List.drop_eq_nil_of_le (by omega)] at hv; cases hv
  | succ j ih =>
    intro i hj hi
    have hlt : i < vs.length := by omega
    obtain ⟨g, ⟨K1, h1⟩, hg⟩ := qHi vs[i] 60 (by omega)
    obtain ⟨b, ⟨K2, h2⟩, hb⟩ := ih (i + 1) (by omega) (by omega)
    cases g with
    | true =>
      refine ⟨true, ⟨K1 + 2, fun k hk => ?_⟩, fun h => by cases h⟩
      obtain ⟨k, rfl⟩ : ∃ m, k = m + 2 := ⟨k - 2, by omega⟩
      have h1 := h1 k (by omega)
      simp only at h1
      simp only [hogsheadlaw15_great.l0]
      rw [if_pos (by omega)]
      simp only [hogsheadlaw15_great.j1]
      rw [if_pos (decide_eq_true (by omega)), if_pos (by omega), if_pos (by omega), qB1 vs i hlt, show (60 : Int) = ((60 : Nat) : Int) from rfl, h1]
      rfl
    | false =>
      refine ⟨b, ⟨K1 + K2 + 2, fun k hk => ?_⟩, fun h v hv => ?_⟩
      · obtain ⟨k, rfl⟩ : ∃ m, k = m + 2 := ⟨k - 2, by omega⟩
        have h1 := h1 k (by omega)
        have h2 := h2 k (by omega)
        simp only at h1 h2
        have E3 : Aside0 (wrap64 ((i : Int) + 1) = ((i + 1 : Nat) : Int)) := ⟨qBb (by omega) (by omega)⟩
        simp only [hogsheadlaw15_great.l0]
        rw [if_pos (by omega)]
        simp only [hogsheadlaw15_great.j1]
        rw [if_pos (decide_eq_true (by omega)), if_pos (by omega), if_pos (by omega), qB1 vs i hlt, show (60 : Int) = ((60 : Nat) : Int) from rfl, h1]
        simp only [Option.bind_some]
        rw [if_neg (by decide), E3.out]
        exact h2
      · rw [List.drop_eq_getElem_cons hlt] at hv
        rcases List.mem_cons.1 hv with rfl | hv
        · exact hg rfl
        · exact hb h v hv
theorem qF4 (vs : List S25) : ∃ b, Ev (fun k => hogsheadlaw15_great.f k vs) b ∧ (b = false → vs.length ≤ 12 ∧ ∀ v ∈ vs, Small 60 v) := by
  by_cases hn : vs.length ≤ 12
  · obtain ⟨b, h1, h2⟩ := qHh vs hn vs.length 0 (by omega) (by omega)
    rw [List.drop_zero] at h2
    exact ⟨b, h1, fun h => ⟨hn, h2 h⟩⟩
  · refine ⟨true, ⟨2, fun k hk => ?_⟩, fun h => by cases h⟩
    obtain ⟨k, rfl⟩ : ∃ m, k = m + 2 := ⟨k - 2, by omega⟩
    show hogsheadlaw15_great.l0 _ vs 0 0 = _
    simp only [hogsheadlaw15_great.l0]
    rw [if_pos (by omega)]
    simp only [hogsheadlaw15_great.j1]
    rw [if_neg (by rw [decide_eq_true_eq]; omega)]
    congr 1
    rw [bne_iff_ne]
    omega
theorem sum_le'' {α : Type} (f : α → Nat) (c : Nat) : ∀ l : List α, (∀ x ∈ l, f x ≤ c) → (l.map f).sum ≤ l.length * c
  | [], _ => by simp
  | a :: l, h => by
    have := sum_le'' f c l (fun x hx => h x (List.mem_cons_of_mem _ hx))
    have h2 := h a (List.mem_cons_self ..)
    simp only [List.map_cons, List.sum_cons, List.length_cons, Nat.add_mul]
    omega
end Go.Proofs.YtbnoihpooeombaaDoor.X

namespace Go.Proofs.YtbnoihpooeombaaDoor.X
open Go.RowKit Go.Proofs.YtbnoihpooeombaaDoorW.PrintWords Go.Proofs.YtbnoihpooeombaaDoor.P
set_option linter.unusedVariables false
set_option linter.unusedSimpArgs false
def firstV : List ByteArray → List S25 → ByteArray → Option S25
  | k :: ks, v :: vs, key => if k = key then some v else firstV ks vs key
  | _, _, _ => none
theorem qFi {α β : Type} : ∀ (K : List α) (V : List β) (p : Nat), (K.take p).zip (V.take p) = (K.zip V).take p
  | [], V, p => by simp
  | _ :: _, [], p => by cases p <;> simp
  | k :: K, v :: V, 0 => by simp
  | k :: K, v :: V, p + 1 => by simp [qFi K V p]
theorem qFj {α β : Type} : ∀ (K : List α) (V : List β) (p : Nat), (K.drop p).zip (V.drop p) = (K.zip V).drop p
  | [], V, p => by simp
  | _ :: _, [], p => by cases p <;> simp
  | k :: K, v :: V, 0 => by simp
  | k :: K, v :: V, p + 1 => by simp [qFj K V p]
theorem qFx {α β : Type} (K : List α) (V : List β) (p : Nat) (k : α) (v : β) (h : K.length = V.length) : (K.take p ++ k :: K.drop p).zip (V.take p ++ v :: V.drop p) = (K.zip V).take p ++ (k, v) :: (K.zip V).drop p := by
  rw [List.zip_append (by rw [List.length_take, List.length_take, h]), List.zip_cons_cons, qFi, qFj]
theorem qCf {α : Type} (l : List α) (p : Nat) (a x : α) : x ∈ l.take p ++ a :: l.drop p ↔ x = a ∨ x ∈ l := by
  have h : l.take p ++ l.drop p = l := List.take_append_drop p l
  constructor
  · intro hx
    rcases List.mem_append.1 hx with hx | hx
    · exact .inr (List.mem_of_mem_take hx)
    · rcases List.mem_cons.1 hx with hx | hx
      · exact .inl hx
      · exact .inr (List.mem_of_mem_drop hx)
  · rintro (rfl | hx)
    · exact List.mem_append_right _ (List.mem_cons_self ..)
    · rw [← h] at hx
      rcases List.mem_append.1 hx with hx | hx
      · exact List.mem_append_left _ hx
      · exact List.mem_append_right _ (List.mem_cons_of_mem _ hx)
theorem qD3 : ∀ (ks : List ByteArray) (vs : List S25) (K : List ByteArray) (V : List S25), qAw K = true → K.length = V.length →
    qAw (ofP ks vs K V).1 = true ∧ (ofP ks vs K V).1.length = (ofP ks vs K V).2.length ∧ ∀ k v, (k, v) ∈ (ofP ks vs K V).1.zip (ofP ks vs K V).2 ↔ ((k, v) ∈ K.zip V ∨ (k ∉ K ∧ firstV ks vs k = some v))
  | [], vs, K, V, hr, hl => by
    have : ofP [] vs K V = (K, V) := by cases vs <;> rfl
    rw [this]
    exact ⟨hr, hl, fun k v => ⟨.inl, fun h => h.elim id (fun h => by have := h.2; simp [firstV] at this)⟩⟩
  | k0 :: ks, [], K, V, hr, hl => ⟨hr, hl, fun k v => ⟨.inl, fun h => h.elim id (fun h => by have := h.2; simp [firstV] at this)⟩⟩
  | k0 :: ks, v0 :: vs, K, V, hr, hl => by
    cases hi : isK K k0 with
    | true =>
      rw [ofP, if_pos hi]
      obtain ⟨h1, h2, h3⟩ := qD3 ks vs K V hr hl
      refine ⟨h1, h2, fun k v => (h3 k v).trans ?_⟩
      have hmem := (qDh K k0 hr).1 hi
      constructor
      · rintro (h | ⟨h, h'⟩)
        · exact .inl h
        · refine .inr ⟨h, ?_⟩
          rw [firstV, if_neg (fun e : k0 = k => h (e ▸ hmem))]
          exact h'
      · rintro (h | ⟨h, h'⟩)
        · exact .inl h
        · refine .inr ⟨h, ?_⟩
          rw [firstV, if_neg (fun e : k0 = k => h (e ▸ hmem))] at h'
          exact h'
    | false =>
      rw [ofP, if_neg (by rw [hi]; decide)]
      have hp := qDb K k0
      have hl2 : (K.take (posK K k0) ++ k0 :: K.drop (posK K k0)).length = (V.take (posK K k0) ++ v0 :: V.drop (posK K k0)).length := by
        simp only [List.length_append, List.length_cons, List.length_take, List.length_drop]; omega
      obtain ⟨h1, h2, h3⟩ := qD3 ks vs _ _ (qBt K k0 hr hi) hl2
      have hnot : k0 ∉ K := fun h => by rw [(qDh K k0 hr).2 h] at hi; cases hi
      refine ⟨h1, h2, fun k v => (h3 k v).trans ?_⟩
      rw [qFx K V (posK K k0) k0 v0 hl, qCf, qCf]
      constructor
      · rintro ((h | h) | ⟨h, h'⟩)
        · injection h with e1 e2
          subst e1 e2
          refine .inr ⟨hnot, ?_⟩
          rw [firstV, if_pos rfl]
        · exact .inl h
        · have hne : ¬ k0 = k := fun e => h (.inl e.symm)
          refine .inr ⟨fun hk => h (.inr hk), ?_⟩
          rw [firstV, if_neg hne]
          exact h'
      · rintro (h | ⟨h, h'⟩)
        · exact .inl (.inr h)
        · by_cases e : k0 = k
          · rw [firstV, if_pos e] at h'
            exact .inl (.inl (by rw [← e, ← Option.some.inj h']))
          · rw [firstV, if_neg e] at h'
            refine .inr ⟨?_, h'⟩
            rintro (hk | hk)
            · exact e hk.symm
            · exact h hk
end Go.Proofs.YtbnoihpooeombaaDoor.X

namespace Go.Proofs.YtbnoihpooeombaaDoor.P
open Go.Proofs.YtbnoihpooeombaaDoor.X
open Go.RowKit Go.Proofs.YtbnoihpooeombaaDoorW.PrintWords Go.Proofs.YtbnoihpooeombaaDoorW.PrintLast Go.Proofs.YtbnoihpooeombaaDoorW.PrintMore
attribute [local go_sem] qAr qAx
set_option linter.unusedVariables false
set_option linter.unusedSimpArgs false
mutual
def hogsheadlaw15_ValueKeys.j0 : Nat → List ByteArray → List Int → Bool → Option (Bool)
 | 0, _, _, _ => none
 | k + 1, x0, x1, x26 => if x26 = true then ((hogsheadlaw15_awake.f k).bind fun t312 => (some t312)) else (hogsheadlaw15_ValueKeys.l0 k x0 x1 ([] : List (S25)) 0)
def hogsheadlaw15_ValueKeys.l0 : Nat → List ByteArray → List Int → List (S25) → Int → Option (Bool)
 | 0, _, _, _, _ => none
 | k + 1, x0, x1, x5, x8 => if x8 < (x0.length : Int) then (if 0 ≤ x8 then (if x8 < (x1.length : Int) then ((hogsheadlaw0_Low.f (rd x1 x8) 1000).bind fun t314 => (if x5.length < 1599289640401 then (hogsheadlaw15_ValueKeys.l0 k x0 x1 (x5 ++ [(⟨2, false, t314, (⟨#[]⟩ : ByteArray), ([] : List (S25)), ([] : List ByteArray)⟩ : S25)]) (wrap64 (x8 + 1))) else (none))) else (none)) else (none)) else (hogsheadlaw15_ValueKeys.l1 k x0 x5 ([] : List (S25)) ([] : List ByteArray) true (wrap64 ((x0.length : Int) - 1)))
def hogsheadlaw15_ValueKeys.l1 : Nat → List ByteArray → List (S25) → List (S25) → List ByteArray → Bool → Int → Option (Bool)
 | 0, _, _, _, _, _, _ => none
 | k + 1, x0, x5, x6, x7, x9, x10 => if x10 ≥ 0 then (if 0 ≤ x10 then (if x10 < (x0.length : Int) then (if x7.length < 8796093022208 then (if x10 < (x5.length : Int) then (if x6.length < 1599289640401 then (hogsheadlaw15_ValueKeys.l2 k x0 x5 (x6 ++ [(⟨(rd_T25 x5 x10).f0, (rd_T25 x5 x10).f1, (rd_T25 x5 x10).f2, (rd_T25 x5 x10).f3, (rd_T25 x5 x10).f4, (rd_T25 x5 x10).f5⟩ : S25)]) (x7 ++ [rdOf ByteArray.empty x0 x10]) x9 x10 0) else (none)) else (none)) else (none)) else (none)) else (none)) else ((value_Of.f k x0 x5).bind fun bt328 => ((value_May.f bt328.1 bt328.2.1 bt328.2.2.1 bt328.2.2.2.1 bt328.2.2.2.2.1 bt328.2.2.2.2.2).bind fun t339 => (if t339 = true then (if bt328.1 = 5 then (if (bt328.2.2.2.2.2.length : Int) = (bt328.2.2.2.2.1.length : Int) then (if x9 = true then (if (bt328.2.2.2.2.2.length : Int) = (x0.length : Int) then ((value_Of.f k x7 x6).bind fun bt340 => ((value_Same.f bt328.1 bt328.2.1 bt328.2.2.1 bt328.2.2.2.1 bt328.2.2.2.2.1 bt328.2.2.2.2.2 bt340.1 bt340.2.1 bt340.2.2.1 bt340.2.2.2.1 bt340.2.2.2.2.1 bt340.2.2.2.2.2).bind fun t350 => (hogsheadlaw15_ValueKeys.j4 k x0 x5 (!t350) bt328.1 bt328.2.1 bt328.2.2.1 bt328.2.2.2.1 bt328.2.2.2.2.1 bt328.2.2.2.2.2))) else (hogsheadlaw15_ValueKeys.j4 k x0 x5 true bt328.1 bt328.2.1 bt328.2.2.1 bt328.2.2.2.1 bt328.2.2.2.2.1 bt328.2.2.2.2.2)) else (hogsheadlaw15_ValueKeys.j4 k x0 x5 false bt328.1 bt328.2.1 bt328.2.2.1 bt328.2.2.2.1 bt328.2.2.2.2.1 bt328.2.2.2.2.2)) else (hogsheadlaw15_ValueKeys.j4 k x0 x5 true bt328.1 bt328.2.1 bt328.2.2.1 bt328.2.2.2.1 bt328.2.2.2.2.1 bt328.2.2.2.2.2)) else (hogsheadlaw15_ValueKeys.j4 k x0 x5 true bt328.1 bt328.2.1 bt328.2.2.1 bt328.2.2.2.1 bt328.2.2.2.2.1 bt328.2.2.2.2.2)) else (hogsheadlaw15_ValueKeys.j4 k x0 x5 true bt328.1 bt328.2.1 bt328.2.2.1 bt328.2.2.2.1 bt328.2.2.2.2.1 bt328.2.2.2.2.2))))
def hogsheadlaw15_ValueKeys.l2 : Nat → List ByteArray → List (S25) → List (S25) → List ByteArray → Bool → Int → Int → Option (Bool)
 | 0, _, _, _, _, _, _, _ => none
 | k + 1, x0, x5, x6, x7, x9, x10, x11 => if x11 < x10 then (if x9 = true then (if 0 ≤ x11 then (if x11 < (x0.length : Int) then (if 0 ≤ x10 then (if x10 < (x0.length : Int) then (hogsheadlaw15_ValueKeys.l2 k x0 x5 x6 x7 ((rdOf ByteArray.empty x0 x11).toList != (rdOf ByteArray.empty x0 x10).toList) x10 (wrap64 (x11 + 1))) else (none)) else (none)) else (none)) else (none)) else (hogsheadlaw15_ValueKeys.l2 k x0 x5 x6 x7 false x10 (wrap64 (x11 + 1)))) else (hogsheadlaw15_ValueKeys.l1 k x0 x5 x6 x7 x9 (wrap64 (x10 - 1)))
def hogsheadlaw15_ValueKeys.j4 : Nat → List ByteArray → List (S25) → Bool → Int → Bool → Int → ByteArray → List (S25) → List ByteArray → Option (Bool)
 | 0, _, _, _, _, _, _, _, _, _ => none
 | k + 1, x0, x5, x119, x339000, x339001, x339002, x339003, x339004, x339005 => if x119 = true then (some false) else (hogsheadlaw15_ValueKeys.l3 k x0 x5 1 x339000 x339001 x339002 x339003 x339004 x339005)
def hogsheadlaw15_ValueKeys.l3 : Nat → List ByteArray → List (S25) → Int → Int → Bool → Int → ByteArray → List (S25) → List ByteArray → Option (Bool)
 | 0, _, _, _, _, _, _, _, _, _ => none
 | k + 1, x0, x5, x13, x339000, x339001, x339002, x339003, x339004, x339005 => if x13 < (x339005.length : Int) then (if 0 ≤ (wrap64 (x13 - 1)) then (if (wrap64 (x13 - 1)) < (x339005.length : Int) then (if 0 ≤ x13 then (if ((Op.bytesLess ((rdOf ByteArray.empty x339005 (wrap64 (x13 - 1))).toList) ((rdOf ByteArray.empty x339005 x13).toList)) = true) then (hogsheadlaw15_ValueKeys.l3 k x0 x5 (wrap64 (x13 + 1)) x339000 x339001 x339002 x339003 x339004 x339005) else (some false)) else (none)) else (none)) else (none)) else (hogsheadlaw15_ValueKeys.l4 k x0 x5 0 x339000 x339001 x339002 x339003 x339004 x339005)
def hogsheadlaw15_ValueKeys.l4 : Nat → List ByteArray → List (S25) → Int → Int → Bool → Int → ByteArray → List (S25) → List ByteArray → Option (Bool)
 | 0, _, _, _, _, _, _, _, _, _ => none
 | k + 1, x0, x5, x14, x339000, x339001, x339002, x339003, x339004, x339005 => if x14 < (x0.length : Int) then (hogsheadlaw15_ValueKeys.l5 k x0 x5 x14 0 x339000 x339001 x339002 x339003 x339004 x339005) else ((hogsheadlaw15_awake.f k).bind fun t353 => (some t353))
def hogsheadlaw15_ValueKeys.l5 : Nat → List ByteArray → List (S25) → Int → Int → Int → Bool → Int → ByteArray → List (S25) → List ByteArray → Option (Bool)
 | 0, _, _, _, _, _, _, _, _, _, _ => none
 | k + 1, x0, x5, x14, x15, x339000, x339001, x339002, x339003, x339004, x339005 => if 0 ≤ x15 then (if x15 < (x0.length : Int) then (if 0 ≤ x14 then (if x14 < (x0.length : Int) then (if (rdOf ByteArray.empty x0 x15).toList = (rdOf ByteArray.empty x0 x14).toList then ((value_Get.f k x339000 x339001 x339002 x339003 x339004 x339005 (rdOf ByteArray.empty x0 x14)).bind fun bt357 => (if bt357.2.2.2.2.2.2 = true then (if x15 < (x5.length : Int) then ((hogsheadlaw0_SameValue.f k bt357.1 bt357.2.1 bt357.2.2.1 bt357.2.2.2.1 bt357.2.2.2.2.1 bt357.2.2.2.2.2.1 ((rd_T25 x5 x15).f0) ((rd_T25 x5 x15).f1) ((rd_T25 x5 x15).f2) ((rd_T25 x5 x15).f3) ((rd_T25 x5 x15).f4) ((rd_T25 x5 x15).f5) 2).bind fun t370 => (if t370 = true then (hogsheadlaw15_ValueKeys.l4 k x0 x5 (wrap64 (x14 + 1)) x339000 x339001 x339002 x339003 x339004 x339005) else (some false))) else (none)) else (some false))) else (hogsheadlaw15_ValueKeys.l5 k x0 x5 x14 (wrap64 (x15 + 1)) x339000 x339001 x339002 x339003 x339004 x339005)) else (none)) else (none)) else (none)) else (none)
end
def hogsheadlaw15_ValueKeys.f (k : Nat) (l0 : List ByteArray) (l1 : List Int) : Option (Bool) := (hogsheadlaw0_GreatTexts.f k l0 12 100).bind fun t311 => (if t311 = true then (hogsheadlaw15_ValueKeys.j0 k l0 l1 true) else (hogsheadlaw15_ValueKeys.j0 k l0 l1 ((l1.length : Int) != (l0.length : Int))))
end Go.Proofs.YtbnoihpooeombaaDoor.P

namespace Go.Proofs.YtbnoihpooeombaaDoor.X
open Go.RowKit Go.Proofs.YtbnoihpooeombaaDoorW.PrintWords Go.Proofs.YtbnoihpooeombaaDoor.P
set_option linter.unusedVariables false
set_option linter.unusedSimpArgs false
def objKV (q : List ByteArray × List S25) : S25 := ⟨5, false, 0, ⟨#[]⟩, q.2, q.1⟩
theorem qC3 (P : ByteArray → Prop) (Q : S25 → Prop) : ∀ (ks : List ByteArray) (vs : List S25) (K : List ByteArray) (V : List S25), (∀ k ∈ ks, P k) → (∀ v ∈ vs, Q v) → (∀ k ∈ K, P k) → (∀ v ∈ V, Q v) →
    (∀ k ∈ (ofP ks vs K V).1, P k) ∧ (∀ v ∈ (ofP ks vs K V).2, Q v) ∧ (ofP ks vs K V).2.length ≤ V.length + vs.length
  | [], vs, K, V, _, _, hK, hV => by
    have : ofP [] vs K V = (K, V) := by cases vs <;> rfl
    rw [this]; exact ⟨hK, hV, by simp⟩
  | _ :: _, [], K, V, _, _, hK, hV => ⟨hK, hV, by simp [ofP]⟩
  | k0 :: ks, v0 :: vs, K, V, hk, hv, hK, hV => by
    rw [ofP]
    split
    · obtain ⟨h1, h2, h3⟩ := qC3 P Q ks vs K V (fun k h => hk k (List.mem_cons_of_mem _ h)) (fun v h => hv v (List.mem_cons_of_mem _ h)) hK hV
      exact ⟨h1, h2, by rw [List.length_cons]; omega⟩
    · obtain ⟨h1, h2, h3⟩ := qC3 P Q ks vs (K.take (posK K k0) ++ k0 :: K.drop (posK K k0)) (V.take (posK K k0) ++ v0 :: V.drop (posK K k0)) (fun k h => hk k (List.mem_cons_of_mem _ h)) (fun v h => hv v (List.mem_cons_of_mem _ h))
        (fun k h => by rcases (qCf K _ k0 k).1 h with e | h
                       · exact e ▸ hk k0 (List.mem_cons_self ..)
                       · exact hK k h)
        (fun v h => by rcases (qCf V _ v0 v).1 h with e | h
                       · exact e ▸ hv v0 (List.mem_cons_self ..)
                       · exact hV v h)
      refine ⟨h1, h2, ?_⟩
      have : (V.take (posK K k0) ++ v0 :: V.drop (posK K k0)).length ≤ V.length + 1 := by
        simp only [List.length_append, List.length_cons, List.length_take, List.length_drop]; omega
      rw [List.length_cons]
      omega
end Go.Proofs.YtbnoihpooeombaaDoor.X

namespace Go.Proofs.YtbnoihpooeombaaDoor.X
open Go.RowKit Go.Proofs.YtbnoihpooeombaaDoorW.PrintWords Go.Proofs.YtbnoihpooeombaaDoorW.PrintLast Go.Proofs.YtbnoihpooeombaaDoorW.PrintMore Go.Proofs.YtbnoihpooeombaaDoor.P
set_option linter.unusedVariables false
set_option linter.unusedSimpArgs false
theorem qD2 {w : World} {base e size n : Nat} {a : Option Addr} {c : Nat} {xs : List Value} (h : w.ownsRow base e size (.slice a n c) n xs) : ∀ ad, a = some ad → ∀ j u, xs[j]? = some u → w.cell? (ad.add j) = some u := by
  intro ad ha j u hu
  subst ha
  rcases h.2 with ⟨e1, _⟩ | ⟨g, cap, cur, he, hg, hh, _, _, _, ht⟩
  · cases e1
  · injection he with e1 e2 e3
    cases e1
    have e4 : (⟨g, 0, none⟩ : Addr).add j = ⟨g, j, none⟩ := by
      simp only [Addr.add, Nat.zero_add]; split <;> first | rfl | (rename_i h_; rw [h_])
    rw [e4]
    exact qBj hh ht j u hu
theorem qFo {w : World} {g t : Nat} {cs : List Value} (h : w.heap[g]? = some (.cells cs.toArray t (0, 0))) : ∀ ad, some (⟨g, 0, none⟩ : Addr) = some ad → ∀ j u, cs[j]? = some u → w.cell? (ad.add j) = some u := by
  intro ad ha j u hu
  cases ha
  have e4 : (⟨g, 0, none⟩ : Addr).add j = ⟨g, j, none⟩ := by
    simp only [Addr.add, Nat.zero_add]; split <;> first | rfl | (rename_i h_; rw [h_])
  rw [e4, qAb h j]
  simpa using hu
theorem qBu {w0 w : World} {A : Option Addr} {xs : List Value} (hb : Below w0.heap.size w0 w) (h : ∀ ad, A = some ad → ∀ j u, xs[j]? = some u → w0.cell? (ad.add j) = some u) : ∀ ad, A = some ad → ∀ j u, xs[j]? = some u → w.cell? (ad.add j) = some u :=
  fun ad ha j u hu => qAh hb (h ad ha j u hu)
theorem qCt {w : World} {A : Option Addr} {xs : List Value} (i : Nat) (h : ∀ ad, A = some ad → ∀ j u, xs[j]? = some u → w.cell? (ad.add j) = some u) : ∀ ad, A = some ad → ∀ j u, (xs.take i)[j]? = some u → w.cell? (ad.add j) = some u := by
  intro ad ha j u hu
  rw [List.getElem?_take] at hu
  split at hu
  · exact h ad ha j u hu
  · cases hu
theorem qFn {w : World} {base e size n : Nat} {a : Option Addr} {c : Nat} {xs : List Value} (h : w.ownsRow base e size (.slice a n c) n xs) (i : Nat) (hi : i ≤ n) {A : Option Addr}
    (hA : ∀ ad, A = some ad → (i = c ∧ a = some ad) ∨ ∃ g, a = some ⟨g, 0, none⟩ ∧ ad = ⟨g, i * size, none⟩) : ∀ ad, A = some ad → ∀ j u, (xs.drop (i * size))[j]? = some u → w.cell? (ad.add j) = some u := by
  intro ad ha j u hu
  rw [List.getElem?_drop] at hu
  have hcap := qCb h
  rcases hA ad ha with ⟨h1, h2⟩ | ⟨g, h1, h2⟩
  · have hl := h.1
    have hj : i * size + j < xs.length := by
      rcases Nat.lt_or_ge (i * size + j) xs.length with h | h
      · exact h
      · rw [List.getElem?_eq_none h] at hu; cases hu
    have : i = n := by omega
    subst this
    omega
  · subst h2
    have := qD2 h _ h1 (i * size + j) u hu
    have e4 : (⟨g, 0, none⟩ : Addr).add (i * size + j) = ⟨g, i * size + j, none⟩ := by
      simp only [Addr.add, Nat.zero_add]; split <;> first | rfl | (rename_i h_; rw [h_])
    have e5 : (⟨g, i * size, none⟩ : Addr).add j = ⟨g, i * size + j, none⟩ := by
      simp only [Addr.add]; split <;> first | rfl | (rename_i h_; rw [h_]; rfl)
    rw [e4] at this
    rw [e5]
    exact this
theorem qA0 {P : Program} {ops : Array Oper} {o : Oper} {a : Act} {W : World} {Kc : Act → World → Prop} {Q : Exit → Act → World → Prop} {E : Prop} (base : Nat) (hw : Region.wanted o (yielded ops a.tmps) = true) (s x : Operand) (t e : TypeId) (z : Value) (size bytes : Nat)
    (ho : o.op = .call { callee := .builtin .append, args := #[s, x], argTypes := #[t, t] })
    (ht : P.underlying t = some (.slice e)) (hinfo : (P.info? e).map (fun i => (i.zero, i.size, i.bytes)) = some (some z, size, bytes)) (hz : z.cells.size = size) (hs0 : 0 < size) (hb0 : 0 < bytes)
    (v : Value) (n : Nat) (xs : List Value) (A : Option Addr) (m c : Nat) (news : List Value) (hs : a.eval s = v) (hx : a.eval x = .slice A m c)
    (HO : W.ownsRow base e size v n xs) (hA : A = none → m = 0) (hl : news.length = m * size) (hnews : ∀ ad, A = some ad → ∀ j u, news[j]? = some u → W.cell? (ad.add j) = some u) (h1 : ∀ u ∈ news, u.oneCell' = true)
    (hbase : base ≤ W.heap.size) (hbig : (n + m) * bytes ≤ 140737488355328)
    (h : ∀ v1 w1, w1.ownsRow base e size v1 (n + m) (xs ++ news) → W.grownBy w1 v.ownBlock → (v1.ownBlock = v.ownBlock ∨ ∃ b, v1.ownBlock = some b ∧ W.heap.size ≤ b) → Kc (a.put o.dst v1) w1) :
    if Region.wanted o (yielded ops a.tmps) = true then Oper.wp P o a W Kc Q else E := by
  obtain ⟨i0, hi, hzz⟩ := Option.map_eq_some_iff.1 hinfo
  simp only [Prod.mk.injEq] at hzz
  obtain ⟨hz0, hz1, hz2⟩ := hzz
  have hlen : n + m ≤ 140737488355328 := Nat.le_trans (Nat.le_mul_of_pos_right _ hb0) hbig
  have hrun : ∃ v1 w1, (Builtin.append_ #[t, t] o.type #[v, .slice A m c]).run P W = .ok v1 w1 ∧ w1.ownsRow base e size v1 (n + m) (xs ++ news) ∧ W.grownBy w1 v.ownBlock ∧ (v1.ownBlock = v.ownBlock ∨ ∃ b, v1.ownBlock = some b ∧ W.heap.size ≤ b) := by
    rcases A with _ | ad
    · have h0 := hA rfl
      subst h0
      obtain rfl : news = [] := List.eq_nil_of_length_eq_zero (by rw [hl, Nat.zero_mul])
      refine ⟨v, W, ?_, by rw [List.append_nil]; exact HO, World.grownBy.refl W _, .inl rfl⟩
      rcases HO.2 with ⟨rfl, hn⟩ | ⟨g, cap, cur, rfl, _, _, hnc, _⟩
      · simp [Builtin.append_, run_underlying ht, sizeOf, typeInfo, hi, Builtin.lenOf, Builtin.firstCells]
      · simp [Builtin.append_, run_underlying ht, sizeOf, typeInfo, hi, Builtin.lenOf, Builtin.firstCells, hnc, storeCells]
    · obtain ⟨v1, w1, hr, hown, hg, _, hat⟩ := run_append_own_at (P := P) W base t o.type e i0 z size bytes ht hi hz0 hz1 hz2 hz hs0 v n xs HO ad m c news hl (hnews ad rfl) h1 (by simp only [maxLen]; omega) hbig hbase
      exact ⟨v1, w1, hr, hown, hg, hat.imp id (fun h => ⟨_, h, Nat.le_refl _⟩)⟩
  obtain ⟨v1, w1, hr, hown, hg, hat⟩ := hrun
  rw [if_pos hw]
  unfold Oper.wp execOp
  simp only [ho, resolve, invoke, builtin, Sem.run_bind, Sem.run_pure, Result.andThen_ok, List.map_toArray, List.map_cons, List.map_nil, hs, hx, hr]
  exact h v1 w1 hown hg hat
end Go.Proofs.YtbnoihpooeombaaDoor.X
