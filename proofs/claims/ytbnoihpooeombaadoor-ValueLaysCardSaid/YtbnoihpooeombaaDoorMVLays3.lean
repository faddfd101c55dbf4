/- Part 3 of what is behind the row RowValueLays: Pf53, Pf22, XVL, XRO, Pf28, Pf46, Pf14, XVN, XVE, Pf93, Pf66, X1, XVK. -/
import Derived.Test.YtbnoihpooeombaaDoorMVLays2
import Derived.Test.YtbnoihpooeombaaDoorProg
import Derived.Below
import Derived.Deep.Draws
import Derived.Deep.AppendLies
import Derived.Maps.AppendAt
import Derived.OwnWalk
import Derived.Laws.BytesArg
import Derived.Laws.MakeOwn
import Derived.Laws.OwnMore
import Derived.Deep.OwnRows
import Derived.Tactics
import Derived.Lib.ConvBytes
import Derived.Laws.Slices
import Derived.WalkKit
import Derived.KernelRfl
import Derived.RowKit3
import Derived.Deep.LoopGhost
import Derived.Deep.QuietTactic
import Derived.BigQuiet
import Derived.WideLaws
import Derived.Deep.DeepCutAuto
import Derived.Deep.CutBlock
import Derived.Deep.RegionHeld3
import Derived.Laws.Rows
import Derived.Lib.AppendStr
import Derived.ArgAppend
import Derived.Laws.IdiomCopy
import Derived.OrdersHeld
import Derived.Laws.BitsLemmas
import Derived.RowKit
import Derived.Laws.Cover1
import Derived.Laws.StructEq
import Derived.Lib.ItoaNum
import Derived.Lib.ItoaMem
import Derived.Deep.DeepMust
import Derived.Deep.AppendSrc
import Derived.Lib.SliceRun
import Derived.Outline
import Derived.WalkLawsBesides
import Derived.WalkSpells
import Derived.LoopTactic
import Derived.Lib.Hide
import Derived.Lib.IndexMore
import Derived.Lib.Bytealg
import Derived.Laws.BitsAllLaws
import Derived.Lib.Repeat
import Derived.Lib.ItoaLen
import Derived.SliceStrings
import Derived.Deep.Slices
import Derived.Test.YtbnoihpooeombaaDoorRows
import Derived.ProofKit
import Derived.OpenShut
import Derived.ShutString
import Derived.SizedLaws
import Derived.Deep.DeepHandedRow
import Derived.Lib.LaidTab
import Derived.LaidMore
import Derived.Stop.Joined
import Derived.Shelf.Strings.Builder1
import Derived.Shelf.Strings.Builder2
import Derived.Shelf.Strings.OnBuilder
import Derived.Shelf.Strings.BuilderF
import Derived.Shelf.Strings.BuilderK
import Derived.Shelf.Strconv.Itoa0
import Derived.Shelf.Strconv.Itoa1
import Derived.Shelf.LaysM
import Derived.Shelf.Strconv.Itoa2
import Derived.Shelf.Strconv.Itoa3
import Derived.Shelf.Strings.Prefix
import Derived.Shelf.Bits.Mul64
import Derived.Shelf.Strings.Repeat
import Derived.ChangeSlices
import Derived.Laws.Bits64b
import Derived.Laws.NewBlocks
import Derived.Lib.AppendIntMem
namespace Go.Proofs.YtbnoihpooeombaaDoor.P
open Go.Proofs.YtbnoihpooeombaaDoor.X
open Go.RowKit Go.Proofs.YtbnoihpooeombaaDoorW.PrintWords Go.Proofs.YtbnoihpooeombaaDoorW.PrintLast Go.Proofs.YtbnoihpooeombaaDoorW.PrintMore
attribute [local go_sem] qAz qA5
set_option linter.unusedVariables false
set_option linter.unusedSimpArgs false
mutual
def hogsheadref15_may.j0 : Nat → Int → Bool → Int → Bool → Int → ByteArray → List (S25) → List ByteArray → Option (Bool)
 | 0, _, _, _, _, _, _, _, _ => none
 | k + 1, x1, x33, x193000, x193001, x193002, x193003, x193004, x193005 => if x33 = true then (some false) else (if x193000 = 5 then (hogsheadref15_may.j1 k x1 ((x193005.length : Int) != (x193004.length : Int)) x193000 x193001 x193002 x193003 x193004 x193005) else (hogsheadref15_may.j1 k x1 false x193000 x193001 x193002 x193003 x193004 x193005))
def hogsheadref15_may.j1 : Nat → Int → Bool → Int → Bool → Int → ByteArray → List (S25) → List ByteArray → Option (Bool)
 | 0, _, _, _, _, _, _, _, _ => none
 | k + 1, x1, x45, x193000, x193001, x193002, x193003, x193004, x193005 => if x45 = true then (some false) else (hogsheadref15_may.l0 k x1 1 x193000 x193001 x193002 x193003 x193004 x193005)
def hogsheadref15_may.l0 : Nat → Int → Int → Int → Bool → Int → ByteArray → List (S25) → List ByteArray → Option (Bool)
 | 0, _, _, _, _, _, _, _, _ => none
 | k + 1, x1, x5, x193000, x193001, x193002, x193003, x193004, x193005 => if x5 < (x193005.length : Int) then (if 0 ≤ (wrap64 (x5 - 1)) then (if (wrap64 (x5 - 1)) < (x193005.length : Int) then (if 0 ≤ x5 then (if ((Op.bytesLess ((rdOf ByteArray.empty x193005 (wrap64 (x5 - 1))).toList) ((rdOf ByteArray.empty x193005 x5).toList)) = true) then (hogsheadref15_may.l0 k x1 (wrap64 (x5 + 1)) x193000 x193001 x193002 x193003 x193004 x193005) else (some false)) else (none)) else (none)) else (none)) else (hogsheadref15_may.l1 k x1 0 x193000 x193001 x193002 x193003 x193004 x193005)
def hogsheadref15_may.l1 : Nat → Int → Int → Int → Bool → Int → ByteArray → List (S25) → List ByteArray → Option (Bool)
 | 0, _, _, _, _, _, _, _, _ => none
 | k + 1, x1, x6, x193000, x193001, x193002, x193003, x193004, x193005 => if x6 < (x193004.length : Int) then (if 0 ≤ x6 then ((hogsheadref15_may.f k ((rd_T25 x193004 x6).f0) ((rd_T25 x193004 x6).f1) ((rd_T25 x193004 x6).f2) ((rd_T25 x193004 x6).f3) ((rd_T25 x193004 x6).f4) ((rd_T25 x193004 x6).f5) (wrap64 (x1 - 1))).bind fun t197 => (if t197 = true then (hogsheadref15_may.l1 k x1 (wrap64 (x6 + 1)) x193000 x193001 x193002 x193003 x193004 x193005) else (some false))) else (none)) else (some true)
def hogsheadref15_may.f : Nat → Int → Bool → Int → ByteArray → List (S25) → List ByteArray → Int → Option (Bool)
 | 0, _, _, _, _, _, _, _ => none
 | k + 1, a0_0, a0_1, a0_2, a0_3, l0_4, l0_5, a1 => if a1 < 1 then (hogsheadref15_may.j0 k a1 true a0_0 a0_1 a0_2 a0_3 l0_4 l0_5) else ((hogsheadref15_plain.f k a0_0 a0_1 a0_2 a0_3 l0_4 l0_5).bind fun t193 => (if t193 = true then (if a0_0 < 0 then (hogsheadref15_may.j0 k a1 true a0_0 a0_1 a0_2 a0_3 l0_4 l0_5) else (if a0_0 > 5 then (hogsheadref15_may.j0 k a1 true a0_0 a0_1 a0_2 a0_3 l0_4 l0_5) else (if a0_2 < (-9007199254740992) then (hogsheadref15_may.j0 k a1 true a0_0 a0_1 a0_2 a0_3 l0_4 l0_5) else (hogsheadref15_may.j0 k a1 (decide (a0_2 > 9007199254740992)) a0_0 a0_1 a0_2 a0_3 l0_4 l0_5)))) else (hogsheadref15_may.j0 k a1 true a0_0 a0_1 a0_2 a0_3 l0_4 l0_5)))
end
set_option maxHeartbeats 8000000 in
set_option maxRecDepth 100000 in
theorem hogsheadref15_may.calls (k : Nat) : ∀ (a0_0 : Int) (a0_1 : Bool) (a0_2 : Int) (a0_3 : ByteArray) (A0_4 : Option Addr) (c0_4 : Nat) (l0_4 : List (S25)) (A0_5 : Option Addr) (c0_5 : Nat) (l0_5 : List ByteArray) (a1 : Int) (r : Bool) (w : World) (hr0_4 : Kd.C k25 w A0_4 l0_4.length l0_4) (hc0_4 : l0_4.length ≤ c0_4) (hr0_5 : Kd.C Kd.string w A0_5 l0_5.length l0_5) (hc0_5 : l0_5.length ≤ c0_5) (h : hogsheadref15_may.f k a0_0 a0_1 a0_2 a0_3 l0_4 l0_5 a1 = some r),
  Calls Tryd.prog 53 #[.agg #[.int .i64 a0_0, .bool a0_1, .int .i64 a0_2, .string a0_3, .slice A0_4 l0_4.length c0_4, .slice A0_5 l0_5.length c0_5], .int .i64 a1] w fun e w' => e = .returned (.bool r) ∧ Below w.heap.size w w' := by
 induction k using Nat.strongRecOn with
 | _ k ih =>
 intro a0_0 a0_1 a0_2 a0_3 A0_4 c0_4 l0_4 A0_5 c0_5 l0_5 a1 r w hr0_4 hc0_4 hr0_5 hc0_5 h
 cases k with
 | zero => exact absurd h (by simp [hogsheadref15_may.f])
 | succ k =>
 simp only [hogsheadref15_may.f] at h
 have hu25 := Tryd.underlying25
 have HR0_4 := Aside0.mk hr0_4
 have HC0_4 := Aside0.mk hc0_4
 clear hr0_4 hc0_4
 have HR0_5 := Aside0.mk hr0_5
 have HC0_5 := Aside0.mk hc0_5
 clear hr0_5 hc0_5
 have HB := Aside0.mk (Below.refl w.heap.size w)
 have H : (if a1 < 1 then (hogsheadref15_may.j0 k a1 true a0_0 a0_1 a0_2 a0_3 l0_4 l0_5) else ((hogsheadref15_plain.f k a0_0 a0_1 a0_2 a0_3 l0_4 l0_5).bind fun t193 => (if t193 = true then (if a0_0 < 0 then (hogsheadref15_may.j0 k a1 true a0_0 a0_1 a0_2 a0_3 l0_4 l0_5) else (if a0_0 > 5 then (hogsheadref15_may.j0 k a1 true a0_0 a0_1 a0_2 a0_3 l0_4 l0_5) else (if a0_2 < (-9007199254740992) then (hogsheadref15_may.j0 k a1 true a0_0 a0_1 a0_2 a0_3 l0_4 l0_5) else (hogsheadref15_may.j0 k a1 (decide (a0_2 > 9007199254740992)) a0_0 a0_1 a0_2 a0_3 l0_4 l0_5)))) else (hogsheadref15_may.j0 k a1 true a0_0 a0_1 a0_2 a0_3 l0_4 l0_5)))) = some r := h
 clear h
 have HC3 := Aside0.mk H
 clear H
 go_enter Tryd.func53, Tryd.ntmps53
 go_upto_region 1 with (first | ((with_reducible refine qAv (N := 2) rfl ?_); (try (refine qBd (by rfl) ?_; dsimp only)); refine qAu ?hg (N := 2) ?hd (cs := #[.int .i64 a0_0, .bool a0_1, .int .i64 a0_2, .string a0_3, .slice A0_4 l0_4.length c0_4, .slice A0_5 l0_5.length c0_5]) (t := 25) ?hr ?_; (case hd => rfl); (case hg => rfl); (case hr => first | (go_simp; done) | (go_simp; rfl)); intro gb192 hg w4 hbox hb; have n0_ := Aside0.mk (qAj (by repeat (first | (with_reducible first | exact HB.out | apply qAd | apply qAc | apply qAe) | exact HB.out)) hb); have n1_ := Aside0.mk (hbox); have n2_ := Aside0.mk ((by rw [hg]; exact (qAl (by repeat (first | (with_reducible first | exact HB.out | apply qAd | apply qAc | apply qAe) | exact HB.out))) : w.heap.size ≤ gb192)); have n3_ := Aside0.mk ((by rw [hg]; exact (qAl (by repeat (first | (with_reducible first | exact HB.out | apply qAd | apply qAc | apply qAe) | exact HB.out))) : w.heap.size ≤ gb192)); clear HB; have HB := n0_; have BK192 := n1_; have GW192 := n2_; have GE192 := n3_; clear n0_ n1_ n2_ n3_; clear hb hbox hg))
 repeat (go_quiet (first | ((with_reducible refine qAv (N := 2) rfl ?_); (try (refine qBd (by rfl) ?_; dsimp only)); refine qAu ?hg (N := 2) ?hd (cs := #[.int .i64 a0_0, .bool a0_1, .int .i64 a0_2, .string a0_3, .slice A0_4 l0_4.length c0_4, .slice A0_5 l0_5.length c0_5]) (t := 25) ?hr ?_; (case hd => rfl); (case hg => rfl); (case hr => first | (go_simp; done) | (go_simp; rfl)); intro gb192 hg w4 hbox hb; have n0_ := Aside0.mk (qAj (by repeat (first | (with_reducible first | exact HB.out | apply qAd | apply qAc | apply qAe) | exact HB.out)) hb); have n1_ := Aside0.mk (hbox); have n2_ := Aside0.mk ((by rw [hg]; exact (qAl (by repeat (first | (with_reducible first | exact HB.out | apply qAd | apply qAc | apply qAe) | exact HB.out))) : w.heap.size ≤ gb192)); have n3_ := Aside0.mk ((by rw [hg]; exact (qAl (by repeat (first | (with_reducible first | exact HB.out | apply qAd | apply qAc | apply qAe) | exact HB.out))) : w.heap.size ≤ gb192)); clear HB; have HB := n0_; have BK192 := n1_; have GW192 := n2_; have GE192 := n3_; clear n0_ n1_ n2_ n3_; clear hb hbox hg)); go_upto_region 1 with (first | ((with_reducible refine qAv (N := 2) rfl ?_); (try (refine qBd (by rfl) ?_; dsimp only)); refine qAu ?hg (N := 2) ?hd (cs := #[.int .i64 a0_0, .bool a0_1, .int .i64 a0_2, .string a0_3, .slice A0_4 l0_4.length c0_4, .slice A0_5 l0_5.length c0_5]) (t := 25) ?hr ?_; (case hd => rfl); (case hg => rfl); (case hr => first | (go_simp; done) | (go_simp; rfl)); intro gb192 hg w4 hbox hb; have n0_ := Aside0.mk (qAj (by repeat (first | (with_reducible first | exact HB.out | apply qAd | apply qAc | apply qAe) | exact HB.out)) hb); have n1_ := Aside0.mk (hbox); have n2_ := Aside0.mk ((by rw [hg]; exact (qAl (by repeat (first | (with_reducible first | exact HB.out | apply qAd | apply qAc | apply qAe) | exact HB.out))) : w.heap.size ≤ gb192)); have n3_ := Aside0.mk ((by rw [hg]; exact (qAl (by repeat (first | (with_reducible first | exact HB.out | apply qAd | apply qAc | apply qAe) | exact HB.out))) : w.heap.size ≤ gb192)); clear HB; have HB := n0_; have BK192 := n1_; have GW192 := n2_; have GE192 := n3_; clear n0_ n1_ n2_ n3_; clear hb hbox hg)))
 (try simp only [Act.put, List.setIfInBounds_toArray, List.set_cons_zero, List.set_cons_succ])
 go_cut [33] (fun v33 wc => ∃ (kq : Nat) (x33_2 : Bool), v33 = .bool x33_2 ∧ Aside0 (hogsheadref15_may.j0 kq a1 x33_2 a0_0 a0_1 a0_2 a0_3 l0_4 l0_5 = some r) ∧ Aside0 (kq ≤ k) ∧ Aside0 (wc.heap[gb192]? = some (.cells #[.int .i64 a0_0, .bool a0_1, .int .i64 a0_2, .string a0_3, (.slice A0_4 l0_4.length c0_4), (.slice A0_5 l0_5.length c0_5)] 25 (0, 0))) ∧ Aside0 (Below w.heap.size w wc))
 case first =>
  have H := HC3.out
  clear HC3
  by_cases c5 : a1 < 1
  ·rw [if_pos c5] at H
   have c5b0 : decide (a1 < 1) = true := decide_eq_true c5
   clear c5
   (first | rw [c5b0] | (simp only [i64_w, i32_w]; rw [c5b0]) | skip)
   have H' := Aside0.mk H
   clear H
   go_wp2
   repeat (go_quiet (fail); try go_wp2)
   go_meet
   case rel => exact ⟨_, (true), (by first | rfl | (simp; done) | (simp [*]; done) | exact congrArg Value.bool (nil_ne _) | exact congrArg Value.bool (nil_eq _) | exact congrArg Value.bool (nil_ne' _)), H', ⟨by first | omega | exact Nat.le_refl _⟩, ⟨by (with_reducible repeat (first | refine qAg ?_ _ | refine qAh ?_ | refine blk_alloc ?_ _)); exact BK192.out⟩, ⟨by repeat (first | (with_reducible first | exact HB.out | apply qAd | apply qAc | apply qAe | refine qAf ?_ GE192.out) | exact HB.out)⟩⟩
  ·rw [if_neg c5] at H
   have c5b0 : decide (a1 < 1) = false := decide_eq_false c5
   clear c5
   (first | rw [c5b0] | (simp only [i64_w, i32_w]; rw [c5b0]) | skip)
   replace H := Option.bind_eq_some_iff.mp H
   obtain ⟨t193, A60, H⟩ := H
   replace H : (if t193 = true then (if a0_0 < 0 then (hogsheadref15_may.j0 k a1 true a0_0 a0_1 a0_2 a0_3 l0_4 l0_5) else (if a0_0 > 5 then (hogsheadref15_may.j0 k a1 true a0_0 a0_1 a0_2 a0_3 l0_4 l0_5) else (if a0_2 < (-9007199254740992) then (hogsheadref15_may.j0 k a1 true a0_0 a0_1 a0_2 a0_3 l0_4 l0_5) else (hogsheadref15_may.j0 k a1 (decide (a0_2 > 9007199254740992)) a0_0 a0_1 a0_2 a0_3 l0_4 l0_5)))) else (hogsheadref15_may.j0 k a1 true a0_0 a0_1 a0_2 a0_3 l0_4 l0_5)) = some r := H
   have A6 := Aside0.mk A60
   clear A60
   by_cases c7 : t193 = true
   ·subst c7
    have H1 : (if a0_0 < 0 then (hogsheadref15_may.j0 k a1 true a0_0 a0_1 a0_2 a0_3 l0_4 l0_5) else (if a0_0 > 5 then (hogsheadref15_may.j0 k a1 true a0_0 a0_1 a0_2 a0_3 l0_4 l0_5) else (if a0_2 < (-9007199254740992) then (hogsheadref15_may.j0 k a1 true a0_0 a0_1 a0_2 a0_3 l0_4 l0_5) else (hogsheadref15_may.j0 k a1 (decide (a0_2 > 9007199254740992)) a0_0 a0_1 a0_2 a0_3 l0_4 l0_5)))) = some r := by rw [if_pos rfl] at H; exact H
    clear H
    have H := H1
    clear H1
    by_cases c8 : a0_0 < 0
    ·rw [if_pos c8] at H
     have c8b0 : decide (a0_0 < 0) = true := decide_eq_true c8
     clear c8
     have H' := Aside0.mk H
     clear H
     have hcz9_0 : w4.cell? ⟨gb192, 0, none⟩ = some (.int .i64 a0_0) := (qAa BK192.out 0).trans rfl
     have hcz9_1 : w4.cell? ⟨gb192, 1, none⟩ = some (.bool a0_1) := (qAa BK192.out 1).trans rfl
     have hcz9_2 : w4.cell? ⟨gb192, 2, none⟩ = some (.int .i64 a0_2) := (qAa BK192.out 2).trans rfl
     have hcz9_3 : w4.cell? ⟨gb192, 3, none⟩ = some (.string a0_3) := (qAa BK192.out 3).trans rfl
     have hcz9_4 : w4.cell? ⟨gb192, 4, none⟩ = some (.slice A0_4 l0_4.length c0_4) := (qAa BK192.out 4).trans rfl
     have hcz9_5 : w4.cell? ⟨gb192, 5, none⟩ = some (.slice A0_5 l0_5.length c0_5) := (qAa BK192.out 5).trans rfl
     have hfz9_0 := qAb BK192.out 0
     have hfz9_1 := qAb BK192.out 1
     have hfz9_2 := qAb BK192.out 2
     have hfz9_3 := qAb BK192.out 3
     have hfz9_4 := qAb BK192.out 4
     have hfz9_5 := qAb BK192.out 5
     go_wp2_with (first | (go_at_call 75; (with_reducible refine (hogsheadref15_plain.calls k a0_0 a0_1 a0_2 a0_3 _ _ l0_4 _ _ l0_5 true _ ?side1 ?side2 ?side3 ?side4 A6.out).mono ?_); (case side1 => repeat (first | exact (Kd.C_below HR0_4.out HB.out) | (with_reducible refine Kd.C_alloc ?_ _) | (with_reducible refine Kd.C_drewN ?_ _) | (with_reducible refine Kd.C_drew ?_))); (case side2 => exact HC0_4.out); (case side3 => repeat (first | exact (Kd.C_below HR0_5.out HB.out) | (with_reducible refine Kd.C_alloc ?_ _) | (with_reducible refine Kd.C_drewN ?_ _) | (with_reducible refine Kd.C_drew ?_))); (case side4 => exact HC0_5.out); rintro e w10 ⟨rfl, hb⟩; have n0_ := Aside0.mk (qAi (g := gb192) (o := .cells #[.int .i64 a0_0, .bool a0_1, .int .i64 a0_2, .string a0_3, .slice A0_4 l0_4.length c0_4, .slice A0_5 l0_5.length c0_5] 25 (0, 0)) (by (with_reducible repeat (first | refine qAg ?_ _ | refine qAh ?_ | refine blk_alloc ?_ _)); exact BK192.out) hb); have n1_ := Aside0.mk (qAj (by repeat (first | (with_reducible first | exact HB.out | apply qAd | apply qAc | apply qAe | refine qAf ?_ GE192.out) | exact HB.out)) hb); clear BK192; clear HB; have BK192 := n0_; have HB := n1_; clear n0_ n1_; (try clear hb); (try clear hb2); (try clear hk); (try clear hi); have hcz11_0 : w10.cell? ⟨gb192, 0, none⟩ = some (.int .i64 a0_0) := (qAa BK192.out 0).trans rfl; have hcz11_1 : w10.cell? ⟨gb192, 1, none⟩ = some (.bool a0_1) := (qAa BK192.out 1).trans rfl; have hcz11_2 : w10.cell? ⟨gb192, 2, none⟩ = some (.int .i64 a0_2) := (qAa BK192.out 2).trans rfl; have hcz11_3 : w10.cell? ⟨gb192, 3, none⟩ = some (.string a0_3) := (qAa BK192.out 3).trans rfl; have hcz11_4 : w10.cell? ⟨gb192, 4, none⟩ = some (.slice A0_4 l0_4.length c0_4) := (qAa BK192.out 4).trans rfl; have hcz11_5 : w10.cell? ⟨gb192, 5, none⟩ = some (.slice A0_5 l0_5.length c0_5) := (qAa BK192.out 5).trans rfl; have hfz11_0 := qAb BK192.out 0; have hfz11_1 := qAb BK192.out 1; have hfz11_2 := qAb BK192.out 2; have hfz11_3 := qAb BK192.out 3; have hfz11_4 := qAb BK192.out 4; have hfz11_5 := qAb BK192.out 5))
     repeat (go_quiet (first | (go_at_call 75; (with_reducible refine (hogsheadref15_plain.calls k a0_0 a0_1 a0_2 a0_3 _ _ l0_4 _ _ l0_5 true _ ?side1 ?side2 ?side3 ?side4 A6.out).mono ?_); (case side1 => repeat (first | exact (Kd.C_below HR0_4.out HB.out) | (with_reducible refine Kd.C_alloc ?_ _) | (with_reducible refine Kd.C_drewN ?_ _) | (with_reducible refine Kd.C_drew ?_))); (case side2 => exact HC0_4.out); (case side3 => repeat (first | exact (Kd.C_below HR0_5.out HB.out) | (with_reducible refine Kd.C_alloc ?_ _) | (with_reducible refine Kd.C_drewN ?_ _) | (with_reducible refine Kd.C_drew ?_))); (case side4 => exact HC0_5.out); rintro e w10 ⟨rfl, hb⟩; have n0_ := Aside0.mk (qAi (g := gb192) (o := .cells #[.int .i64 a0_0, .bool a0_1, .int .i64 a0_2, .string a0_3, .slice A0_4 l0_4.length c0_4, .slice A0_5 l0_5.length c0_5] 25 (0, 0)) (by (with_reducible repeat (first | refine qAg ?_ _ | refine qAh ?_ | refine blk_alloc ?_ _)); exact BK192.out) hb); have n1_ := Aside0.mk (qAj (by repeat (first | (with_reducible first | exact HB.out | apply qAd | apply qAc | apply qAe | refine qAf ?_ GE192.out) | exact HB.out)) hb); clear BK192; clear HB; have BK192 := n0_; have HB := n1_; clear n0_ n1_; (try clear hb); (try clear hb2); (try clear hk); (try clear hi); have hcz11_0 : w10.cell? ⟨gb192, 0, none⟩ = some (.int .i64 a0_0) := (qAa BK192.out 0).trans rfl; have hcz11_1 : w10.cell? ⟨gb192, 1, none⟩ = some (.bool a0_1) := (qAa BK192.out 1).trans rfl; have hcz11_2 : w10.cell? ⟨gb192, 2, none⟩ = some (.int .i64 a0_2) := (qAa BK192.out 2).trans rfl; have hcz11_3 : w10.cell? ⟨gb192, 3, none⟩ = some (.string a0_3) := (qAa BK192.out 3).trans rfl; have hcz11_4 : w10.cell? ⟨gb192, 4, none⟩ = some (.slice A0_4 l0_4.length c0_4) := (qAa BK192.out 4).trans rfl; have hcz11_5 : w10.cell? ⟨gb192, 5, none⟩ = some (.slice A0_5 l0_5.length c0_5) := (qAa BK192.out 5).trans rfl; have hfz11_0 := qAb BK192.out 0; have hfz11_1 := qAb BK192.out 1; have hfz11_2 := qAb BK192.out 2; have hfz11_3 := qAb BK192.out 3; have hfz11_4 := qAb BK192.out 4; have hfz11_5 := qAb BK192.out 5; (try clear A6))); try go_wp2_with (first | (go_at_call 75; (with_reducible refine (hogsheadref15_plain.calls k a0_0 a0_1 a0_2 a0_3 _ _ l0_4 _ _ l0_5 true _ ?side1 ?side2 ?side3 ?side4 A6.out).mono ?_); (case side1 => repeat (first | exact (Kd.C_below HR0_4.out HB.out) | (with_reducible refine Kd.C_alloc ?_ _) | (with_reducible refine Kd.C_drewN ?_ _) | (with_reducible refine Kd.C_drew ?_))); (case side2 => exact HC0_4.out); (case side3 => repeat (first | exact (Kd.C_below HR0_5.out HB.out) | (with_reducible refine Kd.C_alloc ?_ _) | (with_reducible refine Kd.C_drewN ?_ _) | (with_reducible refine Kd.C_drew ?_))); (case side4 => exact HC0_5.out); rintro e w10 ⟨rfl, hb⟩; have n0_ := Aside0.mk (qAi (g := gb192) (o := .cells #[.int .i64 a0_0, .bool a0_1, .int .i64 a0_2, .string a0_3, .slice A0_4 l0_4.length c0_4, .slice A0_5 l0_5.length c0_5] 25 (0, 0)) (by (with_reducible repeat (first | refine qAg ?_ _ | refine qAh ?_ | refine blk_alloc ?_ _)); exact BK192.out) hb); have n1_ := Aside0.mk (qAj (by repeat (first | (with_reducible first | exact HB.out | apply qAd | apply qAc | apply qAe | refine qAf ?_ GE192.out) | exact HB.out)) hb); clear BK192; clear HB; have BK192 := n0_; have HB := n1_; clear n0_ n1_; (try clear hb); (try clear hb2); (try clear hk); (try clear hi); have hcz11_0 : w10.cell? ⟨gb192, 0, none⟩ = some (.int .i64 a0_0) := (qAa BK192.out 0).trans rfl; have hcz11_1 : w10.cell? ⟨gb192, 1, none⟩ = some (.bool a0_1) := (qAa BK192.out 1).trans rfl; have hcz11_2 : w10.cell? ⟨gb192, 2, none⟩ = some (.int .i64 a0_2) := (qAa BK192.out 2).trans rfl; have hcz11_3 : w10.cell? ⟨gb192, 3, none⟩ = some (.string a0_3) := (qAa BK192.out 3).trans rfl; have hcz11_4 : w10.cell? ⟨gb192, 4, none⟩ = some (.slice A0_4 l0_4.length c0_4) := (qAa BK192.out 4).trans rfl; have hcz11_5 : w10.cell? ⟨gb192, 5, none⟩ = some (.slice A0_5 l0_5.length c0_5) := (qAa BK192.out 5).trans rfl; have hfz11_0 := qAb BK192.out 0; have hfz11_1 := qAb BK192.out 1; have hfz11_2 := qAb BK192.out 2; have hfz11_3 := qAb BK192.out 3; have hfz11_4 := qAb BK192.out 4; have hfz11_5 := qAb BK192.out 5; (try clear A6))))
     go_meet
     case rel => exact ⟨_, (true), (by first | rfl | (simp; done) | (simp [*]; done) | exact congrArg Value.bool (nil_ne _) | exact congrArg Value.bool (nil_eq _) | exact congrArg Value.bool (nil_ne' _)), H', ⟨by first | omega | exact Nat.le_refl _⟩, ⟨by (with_reducible repeat (first | refine qAg ?_ _ | refine qAh ?_ | refine blk_alloc ?_ _)); exact BK192.out⟩, ⟨by repeat (first | (with_reducible first | exact HB.out | apply qAd | apply qAc | apply qAe | refine qAf ?_ GE192.out) | exact HB.out)⟩⟩
    ·rw [if_neg c8] at H
     have c8b0 : decide (a0_0 < 0) = false := decide_eq_false c8
     clear c8
     by_cases c12 : a0_0 > 5
     ·rw [if_pos c12] at H
      have c12b0 : decide (5 < a0_0) = true := decide_eq_true c12
      clear c12
      have H' := Aside0.mk H
      clear H
      have hcz13_0 : w4.cell? ⟨gb192, 0, none⟩ = some (.int .i64 a0_0) := (qAa BK192.out 0).trans rfl
      have hcz13_1 : w4.cell? ⟨gb192, 1, none⟩ = some (.bool a0_1) := (qAa BK192.out 1).trans rfl
      have hcz13_2 : w4.cell? ⟨gb192, 2, none⟩ = some (.int .i64 a0_2) := (qAa BK192.out 2).trans rfl
      have hcz13_3 : w4.cell? ⟨gb192, 3, none⟩ = some (.string a0_3) := (qAa BK192.out 3).trans rfl
      have hcz13_4 : w4.cell? ⟨gb192, 4, none⟩ = some (.slice A0_4 l0_4.length c0_4) := (qAa BK192.out 4).trans rfl
      have hcz13_5 : w4.cell? ⟨gb192, 5, none⟩ = some (.slice A0_5 l0_5.length c0_5) := (qAa BK192.out 5).trans rfl
      have hfz13_0 := qAb BK192.out 0
      have hfz13_1 := qAb BK192.out 1
      have hfz13_2 := qAb BK192.out 2
      have hfz13_3 := qAb BK192.out 3
      have hfz13_4 := qAb BK192.out 4
      have hfz13_5 := qAb BK192.out 5
      go_wp2_with (first | (go_at_call 75; (with_reducible refine (hogsheadref15_plain.calls k a0_0 a0_1 a0_2 a0_3 _ _ l0_4 _ _ l0_5 true _ ?side1 ?side2 ?side3 ?side4 A6.out).mono ?_); (case side1 => repeat (first | exact (Kd.C_below HR0_4.out HB.out) | (with_reducible refine Kd.C_alloc ?_ _) | (with_reducible refine Kd.C_drewN ?_ _) | (with_reducible refine Kd.C_drew ?_))); (case side2 => exact HC0_4.out); (case side3 => repeat (first | exact (Kd.C_below HR0_5.out HB.out) | (with_reducible refine Kd.C_alloc ?_ _) | (with_reducible refine Kd.C_drewN ?_ _) | (with_reducible refine Kd.C_drew ?_))); (case side4 => exact HC0_5.out); rintro e w14 ⟨rfl, hb⟩; have n0_ := Aside0.mk (qAi (g := gb192) (o := .cells #[.int .i64 a0_0, .bool a0_1, .int .i64 a0_2, .string a0_3, .slice A0_4 l0_4.length c0_4, .slice A0_5 l0_5.length c0_5] 25 (0, 0)) (by (with_reducible repeat (first | refine qAg ?_ _ | refine qAh ?_ | refine blk_alloc ?_ _)); exact BK192.out) hb); have n1_ := Aside0.mk (qAj (by repeat (first | (with_reducible first | exact HB.out | apply qAd | apply qAc | apply qAe | refine qAf ?_ GE192.out) | exact HB.out)) hb); clear BK192; clear HB; have BK192 := n0_; have HB := n1_; clear n0_ n1_; (try clear hb); (try clear hb2); (try clear hk); (try clear hi); have hcz15_0 : w14.cell? ⟨gb192, 0, none⟩ = some (.int .i64 a0_0) := (qAa BK192.out 0).trans rfl; have hcz15_1 : w14.cell? ⟨gb192, 1, none⟩ = some (.bool a0_1) := (qAa BK192.out 1).trans rfl; have hcz15_2 : w14.cell? ⟨gb192, 2, none⟩ = some (.int .i64 a0_2) := (qAa BK192.out 2).trans rfl; have hcz15_3 : w14.cell? ⟨gb192, 3, none⟩ = some (.string a0_3) := (qAa BK192.out 3).trans rfl; have hcz15_4 : w14.cell? ⟨gb192, 4, none⟩ = some (.slice A0_4 l0_4.length c0_4) := (qAa BK192.out 4).trans rfl; have hcz15_5 : w14.cell? ⟨gb192, 5, none⟩ = some (.slice A0_5 l0_5.length c0_5) := (qAa BK192.out 5).trans rfl; have hfz15_0 := qAb BK192.out 0; have hfz15_1 := qAb BK192.out 1; have hfz15_2 := qAb BK192.out 2; have hfz15_3 := qAb BK192.out 3; have hfz15_4 := qAb BK192.out 4; have hfz15_5 := qAb BK192.out 5))
      repeat (go_quiet (first | (go_at_call 75; (with_reducible refine (hogsheadref15_plain.calls k a0_0 a0_1 a0_2 a0_3 _ _ l0_4 _ _ l0_5 true _ ?side1 ?side2 ?side3 ?side4 A6.out).mono ?_); (case side1 => repeat (first | exact (Kd.C_below HR0_4.out HB.out) | (with_reducible refine Kd.C_alloc ?_ _) | (with_reducible refine Kd.C_drewN ?_ _) | (with_reducible refine Kd.C_drew ?_))); (case side2 => exact HC0_4.out); (case side3 => repeat (first | exact (Kd.C_below HR0_5.out HB.out) | (with_reducible refine Kd.C_alloc ?_ _) | (with_reducible refine Kd.C_drewN ?_ _) | (with_reducible refine Kd.C_drew ?_))); (case side4 => exact HC0_5.out); rintro e w14 ⟨rfl, hb⟩; have n0_ := Aside0.mk (qAi (g := gb192) (o := .cells #[.int .i64 a0_0, .bool a0_1, .int .i64 a0_2, .string a0_3, .slice A0_4 l0_4.length c0_4, .slice A0_5 l0_5.length c0_5] 25 (0, 0)) (by (with_reducible repeat (first | refine qAg ?_ _ | refine qAh ?_ | refine blk_alloc ?_ _)); exact BK192.out) hb); have n1_ := Aside0.mk (qAj (by repeat (first | (with_reducible first | exact HB.out | apply qAd | apply qAc | apply qAe | refine qAf ?_ GE192.out) | exact HB.out)) hb); clear BK192; clear HB; have BK192 := n0_; have HB := n1_; clear n0_ n1_; (try clear hb); (try clear hb2); (try clear hk); (try clear hi); have hcz15_0 : w14.cell? ⟨gb192, 0, none⟩ = some (.int .i64 a0_0) := (qAa BK192.out 0).trans rfl; have hcz15_1 : w14.cell? ⟨gb192, 1, none⟩ = some (.bool a0_1) := (qAa BK192.out 1).trans rfl; have hcz15_2 : w14.cell? ⟨gb192, 2, none⟩ = some (.int .i64 a0_2) := (qAa BK192.out 2).trans rfl; have hcz15_3 : w14.cell? ⟨gb192, 3, none⟩ = some (.string a0_3) := (qAa BK192.out 3).trans rfl; have hcz15_4 : w14.cell? ⟨gb192, 4, none⟩ = some (.slice A0_4 l0_4.length c0_4) := (qAa BK192.out 4).trans rfl; have hcz15_5 : w14.cell? ⟨gb192, 5, none⟩ = some (.slice A0_5 l0_5.length c0_5) := (qAa BK192.out 5).trans rfl; have hfz15_0 := qAb BK192.out 0; have hfz15_1 := qAb BK192.out 1; have hfz15_2 := qAb BK192.out 2; have hfz15_3 := qAb BK192.out 3; have hfz15_4 := qAb BK192.out 4; have hfz15_5 := qAb BK192.out 5; (try clear A6))); try go_wp2_with (first | (go_at_call 75; (with_reducible refine (hogsheadref15_plain.calls k a0_0 a0_1 a0_2 a0_3 _ _ l0_4 _ _ l0_5 true _ ?side1 ?side2 ?side3 ?side4 A6.out).mono ?_); (case side1 => repeat (first | exact (Kd.C_below HR0_4.out HB.out) | (with_reducible refine Kd.C_alloc ?_ _) | (with_reducible refine Kd.C_drewN ?_ _) | (with_reducible refine Kd.C_drew ?_))); (case side2 => exact HC0_4.out); (case side3 => repeat (first | exact (Kd.C_below HR0_5.out HB.out) | (with_reducible refine Kd.C_alloc ?_ _) | (with_reducible refine Kd.C_drewN ?_ _) | (with_reducible refine Kd.C_drew ?_))); (case side4 => exact HC0_5.out); rintro e w14 ⟨rfl, hb⟩; have n0_ := Aside0.mk (qAi (g := gb192) (o := .cells #[.int .i64 a0_0, .bool a0_1, .int .i64 a0_2, .string a0_3, .slice A0_4 l0_4.length c0_4, .slice A0_5 l0_5.length c0_5] 25 (0, 0)) (by (with_reducible repeat (first | refine qAg ?_ _ | refine qAh ?_ | refine blk_alloc ?_ _)); exact BK192.out) hb); have n1_ := Aside0.mk (qAj (by repeat (first | (with_reducible first | exact HB.out | apply qAd | apply qAc | apply qAe | refine qAf ?_ GE192.out) | exact HB.out)) hb); clear BK192; clear HB; have BK192 := n0_; have HB := n1_; clear n0_ n1_; (try clear hb); (try clear hb2); (try clear hk); (try clear hi); have hcz15_0 : w14.cell? ⟨gb192, 0, none⟩ = some (.int .i64 a0_0) := (qAa BK192.out 0).trans rfl; have hcz15_1 : w14.cell? ⟨gb192, 1, none⟩ = some (.bool a0_1) := (qAa BK192.out 1).trans rfl; have hcz15_2 : w14.cell? ⟨gb192, 2, none⟩ = some (.int .i64 a0_2) := (qAa BK192.out 2).trans rfl; have hcz15_3 : w14.cell? ⟨gb192, 3, none⟩ = some (.string a0_3) := (qAa BK192.out 3).trans rfl; have hcz15_4 : w14.cell? ⟨gb192, 4, none⟩ = some (.slice A0_4 l0_4.length c0_4) := (qAa BK192.out 4).trans rfl; have hcz15_5 : w14.cell? ⟨gb192, 5, none⟩ = some (.slice A0_5 l0_5.length c0_5) := (qAa BK192.out 5).trans rfl; have hfz15_0 := qAb BK192.out 0; have hfz15_1 := qAb BK192.out 1; have hfz15_2 := qAb BK192.out 2; have hfz15_3 := qAb BK192.out 3; have hfz15_4 := qAb BK192.out 4; have hfz15_5 := qAb BK192.out 5; (try clear A6))))
      go_meet
      case rel => exact ⟨_, (true), (by first | rfl | (simp; done) | (simp [*]; done) | exact congrArg Value.bool (nil_ne _) | exact congrArg Value.bool (nil_eq _) | exact congrArg Value.bool (nil_ne' _)), H', ⟨by first | omega | exact Nat.le_refl _⟩, ⟨by (with_reducible repeat (first | refine qAg ?_ _ | refine qAh ?_ | refine blk_alloc ?_ _)); exact BK192.out⟩, ⟨by repeat (first | (with_reducible first | exact HB.out | apply qAd | apply qAc | apply qAe | refine qAf ?_ GE192.out) | exact HB.out)⟩⟩
     ·rw [if_neg c12] at H
      have c12b0 : decide (5 < a0_0) = false := decide_eq_false c12
      clear c12
      by_cases c16 : a0_2 < (-9007199254740992)
      ·rw [if_pos c16] at H
       have c16b0 : decide (a0_2 < (-9007199254740992)) = true := decide_eq_true c16
       clear c16
       have H' := Aside0.mk H
       clear H
       have hcz17_0 : w4.cell? ⟨gb192, 0, none⟩ = some (.int .i64 a0_0) := (qAa BK192.out 0).trans rfl
       have hcz17_1 : w4.cell? ⟨gb192, 1, none⟩ = some (.bool a0_1) := (qAa BK192.out 1).trans rfl
       have hcz17_2 : w4.cell? ⟨gb192, 2, none⟩ = some (.int .i64 a0_2) := (qAa BK192.out 2).trans rfl
       have hcz17_3 : w4.cell? ⟨gb192, 3, none⟩ = some (.string a0_3) := (qAa BK192.out 3).trans rfl
       have hcz17_4 : w4.cell? ⟨gb192, 4, none⟩ = some (.slice A0_4 l0_4.length c0_4) := (qAa BK192.out 4).trans rfl
       have hcz17_5 : w4.cell? ⟨gb192, 5, none⟩ = some (.slice A0_5 l0_5.length c0_5) := (qAa BK192.out 5).trans rfl
       have hfz17_0 := qAb BK192.out 0
       have hfz17_1 := qAb BK192.out 1
       have hfz17_2 := qAb BK192.out 2
       have hfz17_3 := qAb BK192.out 3
       have hfz17_4 := qAb BK192.out 4
       have hfz17_5 := qAb BK192.out 5
       go_wp2_with (first | (go_at_call 75; (with_reducible refine (hogsheadref15_plain.calls k a0_0 a0_1 a0_2 a0_3 _ _ l0_4 _ _ l0_5 true _ ?side1 ?side2 ?side3 ?side4 A6.out).mono ?_); (case side1 => repeat (first | exact (Kd.C_below HR0_4.out HB.out) | (with_reducible refine Kd.C_alloc ?_ _) | (with_reducible refine Kd.C_drewN ?_ _) | (with_reducible refine Kd.C_drew ?_))); (case side2 => exact HC0_4.out); (case side3 => repeat (first | exact (Kd.C_below HR0_5.out HB.out) | (with_reducible refine Kd.C_alloc ?_ _) | (with_reducible refine Kd.C_drewN ?_ _) | (with_reducible refine Kd.C_drew ?_))); (case side4 => exact HC0_5.out); rintro e w18 ⟨rfl, hb⟩; have n0_ := Aside0.mk (qAi (g := gb192) (o := .cells #[.int .i64 a0_0, .bool a0_1, .int .i64 a0_2, .string a0_3, .slice A0_4 l0_4.length c0_4, .slice A0_5 l0_5.length c0_5] 25 (0, 0)) (by (with_reducible repeat (first | refine qAg ?_ _ | refine qAh ?_ | refine blk_alloc ?_ _)); exact BK192.out) hb); have n1_ := Aside0.mk (qAj (by repeat (first | (with_reducible first | exact HB.out | apply qAd | apply qAc | apply qAe | refine qAf ?_ GE192.out) | exact HB.out)) hb); clear BK192; clear HB; have BK192 := n0_; have HB := n1_; clear n0_ n1_; (try clear hb); (try clear hb2); (try clear hk); (try clear hi); have hcz19_0 : w18.cell? ⟨gb192, 0, none⟩ = some (.int .i64 a0_0) := (qAa BK192.out 0).trans rfl; have hcz19_1 : w18.cell? ⟨gb192, 1, none⟩ = some (.bool a0_1) := (qAa BK192.out 1).trans rfl; have hcz19_2 : w18.cell? ⟨gb192, 2, none⟩ = some (.int .i64 a0_2) := (qAa BK192.out 2).trans rfl; have hcz19_3 : w18.cell? ⟨gb192, 3, none⟩ = some (.string a0_3) := (qAa BK192.out 3).trans rfl; have hcz19_4 : w18.cell? ⟨gb192, 4, none⟩ = some (.slice A0_4 l0_4.length c0_4) := (qAa BK192.out 4).trans rfl; have hcz19_5 : w18.cell? ⟨gb192, 5, none⟩ = some (.slice A0_5 l0_5.length c0_5) := (qAa BK192.out 5).trans rfl; have hfz19_0 := qAb BK192.out 0; have hfz19_1 := qAb BK192.out 1; have hfz19_2 := qAb BK192.out 2; have hfz19_3 := qAb BK192.out 3; have hfz19_4 := qAb BK192.out 4; have hfz19_5 := qAb BK192.out 5))
       repeat (go_quiet (first | (go_at_call 75; (with_reducible refine (hogsheadref15_plain.calls k a0_0 a0_1 a0_2 a0_3 _ _ l0_4 _ _ l0_5 true _ ?side1 ?side2 ?side3 ?side4 A6.out).mono ?_); (case side1 => repeat (first | exact (Kd.C_below HR0_4.out HB.out) | (with_reducible refine Kd.C_alloc ?_ _) | (with_reducible refine Kd.C_drewN ?_ _) | (with_reducible refine Kd.C_drew ?_))); (case side2 => exact HC0_4.out); (case side3 => repeat (first | exact (Kd.C_below HR0_5.out HB.out) | (with_reducible refine Kd.C_alloc ?_ _) | (with_reducible refine Kd.C_drewN ?_ _) | (with_reducible refine Kd.C_drew ?_))); (case side4 => exact HC0_5.out); rintro e w18 ⟨rfl, hb⟩; have n0_ := Aside0.mk (qAi (g := gb192) (o := .cells #[.int .i64 a0_0, .bool a0_1, .int .i64 a0_2, .string a0_3, .slice A0_4 l0_4.length c0_4, .slice A0_5 l0_5.length c0_5] 25 (0, 0)) (by (with_reducible repeat (first | refine qAg ?_ _ | refine qAh ?_ | refine blk_alloc ?_ _)); exact BK192.out) hb); have n1_ := Aside0.mk (qAj (by repeat (first | (with_reducible first | exact HB.out | apply qAd | apply qAc | apply qAe | refine qAf ?_ GE192.out) | exact HB.out)) hb); clear BK192; clear HB; have BK192 := n0_; have HB := n1_; clear n0_ n1_; (try clear hb); (try clear hb2); (try clear hk); (try clear hi); have hcz19_0 : w18.cell? ⟨gb192, 0, none⟩ = some (.int .i64 a0_0) := (qAa BK192.out 0).trans rfl; have hcz19_1 : w18.cell? ⟨gb192, 1, none⟩ = some (.bool a0_1) := (qAa BK192.out 1).trans rfl; have hcz19_2 : w18.cell? ⟨gb192, 2, none⟩ = some (.int .i64 a0_2) := (qAa BK192.out 2).trans rfl; have hcz19_3 : w18.cell? ⟨gb192, 3, none⟩ = some (.string a0_3) := (qAa BK192.out 3).trans rfl; have hcz19_4 : w18.cell? ⟨gb192, 4, none⟩ = some (.slice A0_4 l0_4.length c0_4) := (qAa BK192.out 4).trans rfl; have hcz19_5 : w18.cell? ⟨gb192, 5, none⟩ = some (.slice A0_5 l0_5.length c0_5) := (qAa BK192.out 5).trans rfl; have hfz19_0 := qAb BK192.out 0; have hfz19_1 := qAb BK192.out 1; have hfz19_2 := qAb BK192.out 2; have hfz19_3 := qAb BK192.out 3; have hfz19_4 := qAb BK192.out 4; have hfz19_5 := qAb BK192.out 5; (try clear A6))); try go_wp2_with (first | (go_at_call 75; (with_reducible refine (hogsheadref15_plain.calls k a0_0 a0_1 a0_2 a0_3 _ _ l0_4 _ _ l0_5 true _ ?side1 ?side2 ?side3 ?side4 A6.out).mono ?_); (case side1 => repeat (first | exact (Kd.C_below HR0_4.out HB.out) | (with_reducible refine Kd.C_alloc ?_ _) | (with_reducible refine Kd.C_drewN ?_ _) | (with_reducible refine Kd.C_drew ?_))); (case side2 => exact HC0_4.out); (case side3 => repeat (first | exact (Kd.C_below HR0_5.out HB.out) | (with_reducible refine Kd.C_alloc ?_ _) | (with_reducible refine Kd.C_drewN ?_ _) | (with_reducible refine Kd.C_drew ?_))); (case side4 => exact HC0_5.out); rintro e w18 ⟨rfl, hb⟩; have n0_ := Aside0.mk (qAi (g := gb192) (o := .cells #[.int .i64 a0_0, .bool a0_1, .int .i64 a0_2, .string a0_3, .slice A0_4 l0_4.length c0_4, .slice A0_5 l0_5.length c0_5] 25 (0, 0)) (by (with_reducible repeat (first | refine qAg ?_ _ | refine qAh ?_ | refine blk_alloc ?_ _)); exact BK192.out) hb); have n1_ := Aside0.mk (qAj (by repeat (first | (with_reducible first | exact HB.out | apply qAd | apply qAc | apply qAe | refine qAf ?_ GE192.out) | exact HB.out)) hb); clear BK192; clear HB; have BK192 := n0_; have HB := n1_; clear n0_ n1_; (try clear hb); (try clear hb2); (try clear hk); (try clear hi); have hcz19_0 : w18.cell? ⟨gb192, 0, none⟩ = some (.int .i64 a0_0) := (qAa BK192.out 0).trans rfl; have hcz19_1 : w18.cell? ⟨gb192, 1, none⟩ = some (.bool a0_1) := (qAa BK192.out 1).trans rfl; have hcz19_2 : w18.cell? ⟨gb192, 2, none⟩ = some (.int .i64 a0_2) := (qAa BK192.out 2).trans rfl; have hcz19_3 : w18.cell? ⟨gb192, 3, none⟩ = some (.string a0_3) := (qAa BK192.out 3).trans rfl; have hcz19_4 : w18.cell? ⟨gb192, 4, none⟩ = some (.slice A0_4 l0_4.length c0_4) := (qAa BK192.out 4).trans rfl; have hcz19_5 : w18.cell? ⟨gb192, 5, none⟩ = some (.slice A0_5 l0_5.length c0_5) := (qAa BK192.out 5).trans rfl; have hfz19_0 := qAb BK192.out 0; have hfz19_1 := qAb BK192.out 1; have hfz19_2 := qAb BK192.out 2; have hfz19_3 := qAb BK192.out 3; have hfz19_4 := qAb BK192.out 4; have hfz19_5 := qAb BK192.out 5; (try clear A6))))
       go_meet
       case rel => exact ⟨_, (true), (by first | rfl | (simp; done) | (simp [*]; done) | exact congrArg Value.bool (nil_ne _) | exact congrArg Value.bool (nil_eq _) | exact congrArg Value.bool (nil_ne' _)), H', ⟨by first | omega | exact Nat.le_refl _⟩, ⟨by (with_reducible repeat (first | refine qAg ?_ _ | refine qAh ?_ | refine blk_alloc ?_ _)); exact BK192.out⟩, ⟨by repeat (first | (with_reducible first | exact HB.out | apply qAd | apply qAc | apply qAe | refine qAf ?_ GE192.out) | exact HB.out)⟩⟩
      ·rw [if_neg c16] at H
       have c16b0 : decide (a0_2 < (-9007199254740992)) = false := decide_eq_false c16
       clear c16
       have H' := Aside0.mk H
       clear H
       have hcz20_0 : w4.cell? ⟨gb192, 0, none⟩ = some (.int .i64 a0_0) := (qAa BK192.out 0).trans rfl
       have hcz20_1 : w4.cell? ⟨gb192, 1, none⟩ = some (.bool a0_1) := (qAa BK192.out 1).trans rfl
       have hcz20_2 : w4.cell? ⟨gb192, 2, none⟩ = some (.int .i64 a0_2) := (qAa BK192.out 2).trans rfl
       have hcz20_3 : w4.cell? ⟨gb192, 3, none⟩ = some (.string a0_3) := (qAa BK192.out 3).trans rfl
       have hcz20_4 : w4.cell? ⟨gb192, 4, none⟩ = some (.slice A0_4 l0_4.length c0_4) := (qAa BK192.out 4).trans rfl
       have hcz20_5 : w4.cell? ⟨gb192, 5, none⟩ = some (.slice A0_5 l0_5.length c0_5) := (qAa BK192.out 5).trans rfl
       have hfz20_0 := qAb BK192.out 0
       have hfz20_1 := qAb BK192.out 1
       have hfz20_2 := qAb BK192.out 2
       have hfz20_3 := qAb BK192.out 3
       have hfz20_4 := qAb BK192.out 4
       have hfz20_5 := qAb BK192.out 5
       go_wp2_with (first | (go_at_call 75; (with_reducible refine (hogsheadref15_plain.calls k a0_0 a0_1 a0_2 a0_3 _ _ l0_4 _ _ l0_5 true _ ?side1 ?side2 ?side3 ?side4 A6.out).mono ?_); (case side1 => repeat (first | exact (Kd.C_below HR0_4.out HB.out) | (with_reducible refine Kd.C_alloc ?_ _) | (with_reducible refine Kd.C_drewN ?_ _) | (with_reducible refine Kd.C_drew ?_))); (case side2 => exact HC0_4.out); (case side3 => repeat (first | exact (Kd.C_below HR0_5.out HB.out) | (with_reducible refine Kd.C_alloc ?_ _) | (with_reducible refine Kd.C_drewN ?_ _) | (with_reducible refine Kd.C_drew ?_))); (case side4 => exact HC0_5.out); rintro e w21 ⟨rfl, hb⟩; have n0_ := Aside0.mk (qAi (g := gb192) (o := .cells #[.int .i64 a0_0, .bool a0_1, .int .i64 a0_2, .string a0_3, .slice A0_4 l0_4.length c0_4, .slice A0_5 l0_5.length c0_5] 25 (0, 0)) (by (with_reducible repeat (first | refine qAg ?_ _ | refine qAh ?_ | refine blk_alloc ?_ _)); exact BK192.out) hb); have n1_ := Aside0.mk (qAj (by repeat (first | (with_reducible first | exact HB.out | apply qAd | apply qAc | apply qAe | refine qAf ?_ GE192.out) | exact HB.out)) hb); clear BK192; clear HB; have BK192 := n0_; have HB := n1_; clear n0_ n1_; (try clear hb); (try clear hb2); (try clear hk); (try clear hi); have hcz22_0 : w21.cell? ⟨gb192, 0, none⟩ = some (.int .i64 a0_0) := (qAa BK192.out 0).trans rfl; have hcz22_1 : w21.cell? ⟨gb192, 1, none⟩ = some (.bool a0_1) := (qAa BK192.out 1).trans rfl; have hcz22_2 : w21.cell? ⟨gb192, 2, none⟩ = some (.int .i64 a0_2) := (qAa BK192.out 2).trans rfl; have hcz22_3 : w21.cell? ⟨gb192, 3, none⟩ = some (.string a0_3) := (qAa BK192.out 3).trans rfl; have hcz22_4 : w21.cell? ⟨gb192, 4, none⟩ = some (.slice A0_4 l0_4.length c0_4) := (qAa BK192.out 4).trans rfl; have hcz22_5 : w21.cell? ⟨gb192, 5, none⟩ = some (.slice A0_5 l0_5.length c0_5) := (qAa BK192.out 5).trans rfl; have hfz22_0 := qAb BK192.out 0; have hfz22_1 := qAb BK192.out 1; have hfz22_2 := qAb BK192.out 2; have hfz22_3 := qAb BK192.out 3; have hfz22_4 := qAb BK192.out 4; have hfz22_5 := qAb BK192.out 5))
       repeat (go_quiet (first | (go_at_call 75; (with_reducible refine (hogsheadref15_plain.calls k a0_0 a0_1 a0_2 a0_3 _ _ l0_4 _ _ l0_5 true _ ?side1 ?side2 ?side3 ?side4 A6.out).mono ?_); (case side1 => repeat (first | exact (Kd.C_below HR0_4.out HB.out) | (with_reducible refine Kd.C_alloc ?_ _) | (with_reducible refine Kd.C_drewN ?_ _) | (with_reducible refine Kd.C_drew ?_))); (case side2 => exact HC0_4.out); (case side3 => repeat (first | exact (Kd.C_below HR0_5.out HB.out) | (with_reducible refine Kd.C_alloc ?_ _) | (with_reducible refine Kd.C_drewN ?_ _) | (with_reducible refine Kd.C_drew ?_))); (case side4 => exact HC0_5.out); rintro e w21 ⟨rfl, hb⟩; have n0_ := Aside0.mk (qAi (g := gb192) (o := .cells #[.int .i64 a0_0, .bool a0_1, .int .i64 a0_2, .string a0_3, .slice A0_4 l0_4.length c0_4, .slice A0_5 l0_5.length c0_5] 25 (0, 0)) (by (with_reducible repeat (first | refine qAg ?_ _ | refine qAh ?_ | refine blk_alloc ?_ _)); exact BK192.out) hb); have n1_ := Aside0.mk (qAj (by repeat (first | (with_reducible first | exact HB.out | apply qAd | apply qAc | apply qAe | refine qAf ?_ GE192.out) | exact HB.out)) hb); clear BK192; clear HB; have BK192 := n0_; have HB := n1_; clear n0_ n1_; (try clear hb); (try clear hb2); (try clear hk); (try clear hi); have hcz22_0 : w21.cell? ⟨gb192, 0, none⟩ = some (.int .i64 a0_0) := (qAa BK192.out 0).trans rfl; have hcz22_1 : w21.cell? ⟨gb192, 1, none⟩ = some (.bool a0_1) := (qAa BK192.out 1).trans rfl; have hcz22_2 : w21.cell? ⟨gb192, 2, none⟩ = some (.int .i64 a0_2) := (qAa BK192.out 2).trans rfl; have hcz22_3 : w21.cell? ⟨gb192, 3, none⟩ = some (.string a0_3) := (qAa BK192.out 3).trans rfl; have hcz22_4 : w21.cell? ⟨gb192, 4, none⟩ = some (.slice A0_4 l0_4.length c0_4) := (qAa BK192.out 4).trans rfl; have hcz22_5 : w21.cell? ⟨gb192, 5, none⟩ = some (.slice A0_5 l0_5.length c0_5) := (qAa BK192.out 5).trans rfl; have hfz22_0 := qAb BK192.out 0; have hfz22_1 := qAb BK192.out 1; have hfz22_2 := qAb BK192.out 2; have hfz22_3 := qAb BK192.out 3; have hfz22_4 := qAb BK192.out 4; have hfz22_5 := qAb BK192.out 5; (try clear A6))); try go_wp2_with (first | (go_at_call 75; (with_reducible refine (hogsheadref15_plain.calls k a0_0 a0_1 a0_2 a0_3 _ _ l0_4 _ _ l0_5 true _ ?side1 ?side2 ?side3 ?side4 A6.out).mono ?_); (case side1 => repeat (first | exact (Kd.C_below HR0_4.out HB.out) | (with_reducible refine Kd.C_alloc ?_ _) | (with_reducible refine Kd.C_drewN ?_ _) | (with_reducible refine Kd.C_drew ?_))); (case side2 => exact HC0_4.out); (case side3 => repeat (first | exact (Kd.C_below HR0_5.out HB.out) | (with_reducible refine Kd.C_alloc ?_ _) | (with_reducible refine Kd.C_drewN ?_ _) | (with_reducible refine Kd.C_drew ?_))); (case side4 => exact HC0_5.out); rintro e w21 ⟨rfl, hb⟩; have n0_ := Aside0.mk (qAi (g := gb192) (o := .cells #[.int .i64 a0_0, .bool a0_1, .int .i64 a0_2, .string a0_3, .slice A0_4 l0_4.length c0_4, .slice A0_5 l0_5.length c0_5] 25 (0, 0)) (by (with_reducible repeat (first | refine qAg ?_ _ | refine qAh ?_ | refine blk_alloc ?_ _)); exact BK192.out) hb); have n1_ := Aside0.mk (qAj (by repeat (first | (with_reducible first | exact HB.out | apply qAd | apply qAc | apply qAe | refine qAf ?_ GE192.out) | exact HB.out)) hb); clear BK192; clear HB; have BK192 := n0_; have HB := n1_; clear n0_ n1_; (try clear hb); (try clear hb2); (try clear hk); (try clear hi); have hcz22_0 : w21.cell? ⟨gb192, 0, none⟩ = some (.int .i64 a0_0) := (qAa BK192.out 0).trans rfl; have hcz22_1 : w21.cell? ⟨gb192, 1, none⟩ = some (.bool a0_1) := (qAa BK192.out 1).trans rfl; have hcz22_2 : w21.cell? ⟨gb192, 2, none⟩ = some (.int .i64 a0_2) := (qAa BK192.out 2).trans rfl; have hcz22_3 : w21.cell? ⟨gb192, 3, none⟩ = some (.string a0_3) := (qAa BK192.out 3).trans rfl; have hcz22_4 : w21.cell? ⟨gb192, 4, none⟩ = some (.slice A0_4 l0_4.length c0_4) := (qAa BK192.out 4).trans rfl; have hcz22_5 : w21.cell? ⟨gb192, 5, none⟩ = some (.slice A0_5 l0_5.length c0_5) := (qAa BK192.out 5).trans rfl; have hfz22_0 := qAb BK192.out 0; have hfz22_1 := qAb BK192.out 1; have hfz22_2 := qAb BK192.out 2; have hfz22_3 := qAb BK192.out 3; have hfz22_4 := qAb BK192.out 4; have hfz22_5 := qAb BK192.out 5; (try clear A6))))
       go_meet
       case rel => exact ⟨_, (decide (a0_2 > 9007199254740992)), (by first | rfl | (simp; done) | (simp [*]; done) | exact congrArg Value.bool (nil_ne _) | exact congrArg Value.bool (nil_eq _) | exact congrArg Value.bool (nil_ne' _)), H', ⟨by first | omega | exact Nat.le_refl _⟩, ⟨by (with_reducible repeat (first | refine qAg ?_ _ | refine qAh ?_ | refine blk_alloc ?_ _)); exact BK192.out⟩, ⟨by repeat (first | (with_reducible first | exact HB.out | apply qAd | apply qAc | apply qAe | refine qAf ?_ GE192.out) | exact HB.out)⟩⟩
   ·replace c7 := Bool.eq_false_iff.mpr c7
    subst c7
    have H1 : (hogsheadref15_may.j0 k a1 true a0_0 a0_1 a0_2 a0_3 l0_4 l0_5) = some r := by rw [if_neg (show ¬ (false = true) by decide)] at H; exact H
    clear H
    have H := H1
    clear H1
    have H' := Aside0.mk H
    clear H
    have hcz23_0 : w4.cell? ⟨gb192, 0, none⟩ = some (.int .i64 a0_0) := (qAa BK192.out 0).trans rfl
    have hcz23_1 : w4.cell? ⟨gb192, 1, none⟩ = some (.bool a0_1) := (qAa BK192.out 1).trans rfl
    have hcz23_2 : w4.cell? ⟨gb192, 2, none⟩ = some (.int .i64 a0_2) := (qAa BK192.out 2).trans rfl
    have hcz23_3 : w4.cell? ⟨gb192, 3, none⟩ = some (.string a0_3) := (qAa BK192.out 3).trans rfl
    have hcz23_4 : w4.cell? ⟨gb192, 4, none⟩ = some (.slice A0_4 l0_4.length c0_4) := (qAa BK192.out 4).trans rfl
    have hcz23_5 : w4.cell? ⟨gb192, 5, none⟩ = some (.slice A0_5 l0_5.length c0_5) := (qAa BK192.out 5).trans rfl
    have hfz23_0 := qAb BK192.out 0
    have hfz23_1 := qAb BK192.out 1
    have hfz23_2 := qAb BK192.out 2
    have hfz23_3 := qAb BK192.out 3
    have hfz23_4 := qAb BK192.out 4
    have hfz23_5 := qAb BK192.out 5
    go_wp2_with (first | (go_at_call 75; (with_reducible refine (hogsheadref15_plain.calls k a0_0 a0_1 a0_2 a0_3 _ _ l0_4 _ _ l0_5 false _ ?side1 ?side2 ?side3 ?side4 A6.out).mono ?_); (case side1 => repeat (first | exact (Kd.C_below HR0_4.out HB.out) | (with_reducible refine Kd.C_alloc ?_ _) | (with_reducible refine Kd.C_drewN ?_ _) | (with_reducible refine Kd.C_drew ?_))); (case side2 => exact HC0_4.out); (case side3 => repeat (first | exact (Kd.C_below HR0_5.out HB.out) | (with_reducible refine Kd.C_alloc ?_ _) | (with_reducible refine Kd.C_drewN ?_ _) | (with_reducible refine Kd.C_drew ?_))); (case side4 => exact HC0_5.out); rintro e w24 ⟨rfl, hb⟩; have n0_ := Aside0.mk (qAi (g := gb192) (o := .cells #[.int .i64 a0_0, .bool a0_1, .int .i64 a0_2, .string a0_3, .slice A0_4 l0_4.length c0_4, .slice A0_5 l0_5.length c0_5] 25 (0, 0)) (by (with_reducible repeat (first | refine qAg ?_ _ | refine qAh ?_ | refine blk_alloc ?_ _)); exact BK192.out) hb); have n1_ := Aside0.mk (qAj (by repeat (first | (with_reducible first | exact HB.out | apply qAd | apply qAc | apply qAe | refine qAf ?_ GE192.out) | exact HB.out)) hb); clear BK192; clear HB; have BK192 := n0_; have HB := n1_; clear n0_ n1_; (try clear hb); (try clear hb2); (try clear hk); (try clear hi)))
    repeat (go_quiet (first | (go_at_call 75; (with_reducible refine (hogsheadref15_plain.calls k a0_0 a0_1 a0_2 a0_3 _ _ l0_4 _ _ l0_5 false _ ?side1 ?side2 ?side3 ?side4 A6.out).mono ?_); (case side1 => repeat (first | exact (Kd.C_below HR0_4.out HB.out) | (with_reducible refine Kd.C_alloc ?_ _) | (with_reducible refine Kd.C_drewN ?_ _) | (with_reducible refine Kd.C_drew ?_))); (case side2 => exact HC0_4.out); (case side3 => repeat (first | exact (Kd.C_below HR0_5.out HB.out) | (with_reducible refine Kd.C_alloc ?_ _) | (with_reducible refine Kd.C_drewN ?_ _) | (with_reducible refine Kd.C_drew ?_))); (case side4 => exact HC0_5.out); rintro e w24 ⟨rfl, hb⟩; have n0_ := Aside0.mk (qAi (g := gb192) (o := .cells #[.int .i64 a0_0, .bool a0_1, .int .i64 a0_2, .string a0_3, .slice A0_4 l0_4.length c0_4, .slice A0_5 l0_5.length c0_5] 25 (0, 0)) (by (with_reducible repeat (first | refine qAg ?_ _ | refine qAh ?_ | refine blk_alloc ?_ _)); exact BK192.out) hb); have n1_ := Aside0.mk (qAj (by repeat (first | (with_reducible first | exact HB.out | apply qAd | apply qAc | apply qAe | refine qAf ?_ GE192.out) | exact HB.out)) hb); clear BK192; clear HB; have BK192 := n0_; have HB := n1_; clear n0_ n1_; (try clear hb); (try clear hb2); (try clear hk); (try clear hi); (try clear A6))); try go_wp2_with (first | (go_at_call 75; (with_reducible refine (hogsheadref15_plain.calls k a0_0 a0_1 a0_2 a0_3 _ _ l0_4 _ _ l0_5 false _ ?side1 ?side2 ?side3 ?side4 A6.out).mono ?_); (case side1 => repeat (first | exact (Kd.C_below HR0_4.out HB.out) | (with_reducible refine Kd.C_alloc ?_ _) | (with_reducible refine Kd.C_drewN ?_ _) | (with_reducible refine Kd.C_drew ?_))); (case side2 => exact HC0_4.out); (case side3 => repeat (first | exact (Kd.C_below HR0_5.out HB.out) | (with_reducible refine Kd.C_alloc ?_ _) | (with_reducible refine Kd.C_drewN ?_ _) | (with_reducible refine Kd.C_drew ?_))); (case side4 => exact HC0_5.out); rintro e w24 ⟨rfl, hb⟩; have n0_ := Aside0.mk (qAi (g := gb192) (o := .cells #[.int .i64 a0_0, .bool a0_1, .int .i64 a0_2, .string a0_3, .slice A0_4 l0_4.length c0_4, .slice A0_5 l0_5.length c0_5] 25 (0, 0)) (by (with_reducible repeat (first | refine qAg ?_ _ | refine qAh ?_ | refine blk_alloc ?_ _)); exact BK192.out) hb); have n1_ := Aside0.mk (qAj (by repeat (first | (with_reducible first | exact HB.out | apply qAd | apply qAc | apply qAe | refine qAf ?_ GE192.out) | exact HB.out)) hb); clear BK192; clear HB; have BK192 := n0_; have HB := n1_; clear n0_ n1_; (try clear hb); (try clear hb2); (try clear hk); (try clear hi); (try clear A6))))
    go_meet
    case rel => exact ⟨_, (true), (by first | rfl | (simp; done) | (simp [*]; done) | exact congrArg Value.bool (nil_ne _) | exact congrArg Value.bool (nil_eq _) | exact congrArg Value.bool (nil_ne' _)), H', ⟨by first | omega | exact Nat.le_refl _⟩, ⟨by (with_reducible repeat (first | refine qAg ?_ _ | refine qAh ?_ | refine blk_alloc ?_ _)); exact BK192.out⟩, ⟨by repeat (first | (with_reducible first | exact HB.out | apply qAd | apply qAc | apply qAe | refine qAf ?_ GE192.out) | exact HB.out)⟩⟩
 case rest =>
  clear HC3
  try clear c1
  try clear p2
  try clear c5
  try clear c5b0
  try clear c7
  try clear c8
  try clear c8b0
  try clear c12
  try clear c12b0
  try clear c16
  try clear c16b0
  try clear hcz11_0
  try clear hcz11_1
  try clear hcz11_2
  try clear hcz11_3
  try clear hcz11_4
  try clear hcz11_5
  try clear hcz13_0
  try clear hcz13_1
  try clear hcz13_2
  try clear hcz13_3
  try clear hcz13_4
  try clear hcz13_5
  try clear hcz15_0
  try clear hcz15_1
  try clear hcz15_2
  try clear hcz15_3
  try clear hcz15_4
  try clear hcz15_5
  try clear hcz17_0
  try clear hcz17_1
  try clear hcz17_2
  try clear hcz17_3
  try clear hcz17_4
  try clear hcz17_5
  try clear hcz19_0
  try clear hcz19_1
  try clear hcz19_2
  try clear hcz19_3
  try clear hcz19_4
  try clear hcz19_5
  try clear hcz20_0
  try clear hcz20_1
  try clear hcz20_2
  try clear hcz20_3
  try clear hcz20_4
  try clear hcz20_5
  try clear hcz22_0
  try clear hcz22_1
  try clear hcz22_2
  try clear hcz22_3
  try clear hcz22_4
  try clear hcz22_5
  try clear hcz23_0
  try clear hcz23_1
  try clear hcz23_2
  try clear hcz23_3
  try clear hcz23_4
  try clear hcz23_5
  try clear hcz9_0
  try clear hcz9_1
  try clear hcz9_2
  try clear hcz9_3
  try clear hcz9_4
  try clear hcz9_5
  try clear hfz11_0
  try clear hfz11_1
  try clear hfz11_2
  try clear hfz11_3
  try clear hfz11_4
  try clear hfz11_5
  try clear hfz13_0
  try clear hfz13_1
  try clear hfz13_2
  try clear hfz13_3
  try clear hfz13_4
  try clear hfz13_5
  try clear hfz15_0
  try clear hfz15_1
  try clear hfz15_2
  try clear hfz15_3
  try clear hfz15_4
  try clear hfz15_5
  try clear hfz17_0
  try clear hfz17_1
  try clear hfz17_2
  try clear hfz17_3
  try clear hfz17_4
  try clear hfz17_5
  try clear hfz19_0
  try clear hfz19_1
  try clear hfz19_2
  try clear hfz19_3
  try clear hfz19_4
  try clear hfz19_5
  try clear hfz20_0
  try clear hfz20_1
  try clear hfz20_2
  try clear hfz20_3
  try clear hfz20_4
  try clear hfz20_5
  try clear hfz22_0
  try clear hfz22_1
  try clear hfz22_2
  try clear hfz22_3
  try clear hfz22_4
  try clear hfz22_5
  try clear hfz23_0
  try clear hfz23_1
  try clear hfz23_2
  try clear hfz23_3
  try clear hfz23_4
  try clear hfz23_5
  try clear hfz9_0
  try clear hfz9_1
  try clear hfz9_2
  try clear hfz9_3
  try clear hfz9_4
  try clear hfz9_5
  obtain ⟨kq, x33_2, rfl, HA, HJ2, BK192, HB⟩ := hcut
  cases kq with
  | zero => exact absurd HA.out (by simp [hogsheadref15_may.j0])
  | succ kj2 =>
   have H := HA.out
   clear HA
   simp only [hogsheadref15_may.j0] at H
   by_cases c25 : x33_2 = true
   ·subst c25
    have H1 : (some false) = some r := by rw [if_pos rfl] at H; exact H
    clear H
    have H := H1
    clear H1
    obtain rfl := Option.some.inj H
    go_wp2
    repeat (go_quiet (fail); try go_wp2)
    go_ret
    exact ⟨by first | rfl | (simp [qAn, qAm] <;> rfl) | (simp [*, qAn, qAm] <;> rfl), by repeat (first | (with_reducible first | exact HB.out | apply qAd | apply qAc | apply qAe | refine qAf ?_ GE192.out) | exact HB.out)⟩
   ·replace c25 := Bool.eq_false_iff.mpr c25
    subst c25
    have H1 : (if a0_0 = 5 then (hogsheadref15_may.j1 kj2 a1 ((l0_5.length : Int) != (l0_4.length : Int)) a0_0 a0_1 a0_2 a0_3 l0_4 l0_5) else (hogsheadref15_may.j1 kj2 a1 false a0_0 a0_1 a0_2 a0_3 l0_4 l0_5)) = some r := by rw [if_neg (show ¬ (false = true) by decide)] at H; exact H
    clear H
    have H := H1
    clear H1
    have HC26 := Aside0.mk H
    clear H
    go_upto_region 3 with (fail)
    repeat (go_quiet (fail); go_upto_region 3 with (fail))
    go_cut [45] (fun v45 wc => ∃ (kq : Nat) (x45_25 : Bool), v45 = .bool x45_25 ∧ Aside0 (hogsheadref15_may.j1 kq a1 x45_25 a0_0 a0_1 a0_2 a0_3 l0_4 l0_5 = some r) ∧ Aside0 (kq ≤ kj2) ∧ Aside0 (wc.heap[gb192]? = some (.cells #[.int .i64 a0_0, .bool a0_1, .int .i64 a0_2, .string a0_3, (.slice A0_4 l0_4.length c0_4), (.slice A0_5 l0_5.length c0_5)] 25 (0, 0))) ∧ Aside0 (Below w.heap.size w wc))
    case first =>
     have H := HC26.out
     clear HC26
     by_cases c27 : a0_0 = 5
     ·rw [if_pos c27] at H
      have c27b0 : (a0_0 == 5) = true := beq_iff_eq.mpr c27
      have c27b1 : (a0_0 != 5) = false := bne_eq_false_iff_eq.mpr c27
      clear c27
      (first | rw [c27b0] | (simp only [i64_w, i32_w]; rw [c27b0]) | skip)
      have H' := Aside0.mk H
      clear H
      have hcz28_0 : wc.cell? ⟨gb192, 0, none⟩ = some (.int .i64 a0_0) := (qAa BK192.out 0).trans rfl
      have hcz28_1 : wc.cell? ⟨gb192, 1, none⟩ = some (.bool a0_1) := (qAa BK192.out 1).trans rfl
      have hcz28_2 : wc.cell? ⟨gb192, 2, none⟩ = some (.int .i64 a0_2) := (qAa BK192.out 2).trans rfl
      have hcz28_3 : wc.cell? ⟨gb192, 3, none⟩ = some (.string a0_3) := (qAa BK192.out 3).trans rfl
      have hcz28_4 : wc.cell? ⟨gb192, 4, none⟩ = some (.slice A0_4 l0_4.length c0_4) := (qAa BK192.out 4).trans rfl
      have hcz28_5 : wc.cell? ⟨gb192, 5, none⟩ = some (.slice A0_5 l0_5.length c0_5) := (qAa BK192.out 5).trans rfl
      have hfz28_0 := qAb BK192.out 0
      have hfz28_1 := qAb BK192.out 1
      have hfz28_2 := qAb BK192.out 2
      have hfz28_3 := qAb BK192.out 3
      have hfz28_4 := qAb BK192.out 4
      have hfz28_5 := qAb BK192.out 5
      go_wp2
      repeat (go_quiet (fail); try go_wp2)
      go_meet
      case rel => exact ⟨_, (((l0_5.length : Int) != (l0_4.length : Int))), (by first | rfl | (simp; done) | (simp [*]; done) | exact congrArg Value.bool (nil_ne _) | exact congrArg Value.bool (nil_eq _) | exact congrArg Value.bool (nil_ne' _)), H', ⟨by have := HJ2.out; first | omega | exact Nat.le_refl _⟩, ⟨by (with_reducible repeat (first | refine qAg ?_ _ | refine qAh ?_ | refine blk_alloc ?_ _)); exact BK192.out⟩, ⟨by repeat (first | (with_reducible first | exact HB.out | apply qAd | apply qAc | apply qAe | refine qAf ?_ GE192.out) | exact HB.out)⟩⟩
     ·rw [if_neg c27] at H
      have c27b0 : (a0_0 == 5) = false := beq_eq_false_iff_ne.mpr c27
      have c27b1 : (a0_0 != 5) = true := bne_iff_ne.mpr c27
      (first | rw [c27b0] | (simp only [i64_w, i32_w]; rw [c27b0]) | skip)
      have H' := Aside0.mk H
      clear H
      have hcz29_0 : wc.cell? ⟨gb192, 0, none⟩ = some (.int .i64 a0_0) := (qAa BK192.out 0).trans rfl
      have hcz29_1 : wc.cell? ⟨gb192, 1, none⟩ = some (.bool a0_1) := (qAa BK192.out 1).trans rfl
      have hcz29_2 : wc.cell? ⟨gb192, 2, none⟩ = some (.int .i64 a0_2) := (qAa BK192.out 2).trans rfl
      have hcz29_3 : wc.cell? ⟨gb192, 3, none⟩ = some (.string a0_3) := (qAa BK192.out 3).trans rfl
      have hcz29_4 : wc.cell? ⟨gb192, 4, none⟩ = some (.slice A0_4 l0_4.length c0_4) := (qAa BK192.out 4).trans rfl
      have hcz29_5 : wc.cell? ⟨gb192, 5, none⟩ = some (.slice A0_5 l0_5.length c0_5) := (qAa BK192.out 5).trans rfl
      have hfz29_0 := qAb BK192.out 0
      have hfz29_1 := qAb BK192.out 1
      have hfz29_2 := qAb BK192.out 2
      have hfz29_3 := qAb BK192.out 3
      have hfz29_4 := qAb BK192.out 4
      have hfz29_5 := qAb BK192.out 5
      go_wp2
      repeat (go_quiet (fail); try go_wp2)
      go_meet
      case rel => exact ⟨_, (false), (by first | rfl | (simp; done) | (simp [*]; done) | exact congrArg Value.bool (nil_ne _) | exact congrArg Value.bool (nil_eq _) | exact congrArg Value.bool (nil_ne' _)), H', ⟨by have := HJ2.out; first | omega | exact Nat.le_refl _⟩, ⟨by (with_reducible repeat (first | refine qAg ?_ _ | refine qAh ?_ | refine blk_alloc ?_ _)); exact BK192.out⟩, ⟨by repeat (first | (with_reducible first | exact HB.out | apply qAd | apply qAc | apply qAe | refine qAf ?_ GE192.out) | exact HB.out)⟩⟩
    case rest =>
     clear HC26
     try clear c1
     try clear c2
     try clear p2
     try clear c5
     try clear c5b0
     try clear c7
     try clear c8
     try clear c8b0
     try clear c12
     try clear c12b0
     try clear c16
     try clear c16b0
     try clear c25
     try clear c27
     try clear c27b0
     try clear c27b1
     try clear hcz11_0
     try clear hcz11_1
     try clear hcz11_2
     try clear hcz11_3
     try clear hcz11_4
     try clear hcz11_5
     try clear hcz13_0
     try clear hcz13_1
     try clear hcz13_2
     try clear hcz13_3
     try clear hcz13_4
     try clear hcz13_5
     try clear hcz15_0
     try clear hcz15_1
     try clear hcz15_2
     try clear hcz15_3
     try clear hcz15_4
     try clear hcz15_5
     try clear hcz17_0
     try clear hcz17_1
     try clear hcz17_2
     try clear hcz17_3
     try clear hcz17_4
     try clear hcz17_5
     try clear hcz19_0
     try clear hcz19_1
     try clear hcz19_2
     try clear hcz19_3
     try clear hcz19_4
     try clear hcz19_5
     try clear hcz20_0
     try clear hcz20_1
     try clear hcz20_2
     try clear hcz20_3
     try clear hcz20_4
     try clear hcz20_5
     try clear hcz22_0
     try clear hcz22_1
     try clear hcz22_2
     try clear hcz22_3
     try clear hcz22_4
     try clear hcz22_5
     try clear hcz23_0
     try clear hcz23_1
     try clear hcz23_2
     try clear hcz23_3
     try clear hcz23_4
     try clear hcz23_5
     try clear hcz28_0
     try clear hcz28_1
     try clear hcz28_2
     try clear hcz28_3
     try clear hcz28_4
     try clear hcz28_5
     try clear hcz29_0
     try clear hcz29_1
     try clear hcz29_2
     try clear hcz29_3
     try clear hcz29_4
     try clear hcz29_5
     try clear hcz9_0
     try clear hcz9_1
     try clear hcz9_2
     try clear hcz9_3
     try clear hcz9_4
     try clear hcz9_5
     try clear hfz11_0
     try clear hfz11_1
     try clear hfz11_2
     try clear hfz11_3
     try clear hfz11_4
     try clear hfz11_5
     try clear hfz13_0
     try clear hfz13_1
     try clear hfz13_2
     try clear hfz13_3
     try clear hfz13_4
     try clear hfz13_5
     try clear hfz15_0
     try clear hfz15_1
     try clear hfz15_2
     try clear hfz15_3
     try clear hfz15_4
     try clear hfz15_5
     try clear hfz17_0
     try clear hfz17_1
     try clear hfz17_2
     try clear hfz17_3
     try clear hfz17_4
     try clear hfz17_5
     try clear hfz19_0
     try clear hfz19_1
     try clear hfz19_2
     try clear hfz19_3
     try clear hfz19_4
     try clear hfz19_5
     try clear hfz20_0
     try clear hfz20_1
     try clear hfz20_2
     try clear hfz20_3
     try clear hfz20_4
     try clear hfz20_5
     try clear hfz22_0
     try clear hfz22_1
     try clear hfz22_2
     try clear hfz22_3
     try clear hfz22_4
     try clear hfz22_5
     try clear hfz23_0
     try clear hfz23_1
     try clear hfz23_2
     try clear hfz23_3
     try clear hfz23_4
     try clear hfz23_5
     try clear hfz28_0
     try clear hfz28_1
     try clear hfz28_2
     try clear hfz28_3
     try clear hfz28_4
     try clear hfz28_5
     try clear hfz29_0
     try clear hfz29_1
     try clear hfz29_2
     try clear hfz29_3
     try clear hfz29_4
     try clear hfz29_5
     try clear hfz9_0
     try clear hfz9_1
     try clear hfz9_2
     try clear hfz9_3
     try clear hfz9_4
     try clear hfz9_5
     try clear p2
     obtain ⟨kq, x45_25, rfl, HA, HJ25, BK192, HB⟩ := hcut
     cases kq with
     | zero => exact absurd HA.out (by simp [hogsheadref15_may.j1])
     | succ kj25 =>
      have H := HA.out
      clear HA
      simp only [hogsheadref15_may.j1] at H
      by_cases c30 : x45_25 = true
      ·subst c30
       have H1 : (some false) = some r := by rw [if_pos rfl] at H; exact H
       clear H
       have H := H1
       clear H1
       obtain rfl := Option.some.inj H
       go_wp2
       repeat (go_quiet (fail); try go_wp2)
       go_ret
       exact ⟨by first | rfl | (simp [qAn, qAm] <;> rfl) | (simp [*, qAn, qAm] <;> rfl), by repeat (first | (with_reducible first | exact HB.out | apply qAd | apply qAc | apply qAe | refine qAf ?_ GE192.out) | exact HB.out)⟩
      ·replace c30 := Bool.eq_false_iff.mpr c30
       subst c30
       have H1 : (hogsheadref15_may.l0 kj25 a1 1 a0_0 a0_1 a0_2 a0_3 l0_4 l0_5) = some r := by rw [if_neg (show ¬ (false = true) by decide)] at H; exact H
       clear H
       have H := H1
       clear H1
       have H' := Aside0.mk H
       clear H
       go_wp2
       repeat (go_quiet (fail); try go_wp2)
       go_loopg [5] kj25 (fun kq v5 w' => ∃ (x5_3 : Int), v5 = .int .i64 x5_3 ∧ Aside0 (hogsheadref15_may.l0 kq a1 x5_3 a0_0 a0_1 a0_2 a0_3 l0_4 l0_5 = some r) ∧ Aside0 (kq ≤ kj25) ∧ Aside0 (w'.heap[gb192]? = some (.cells #[.int .i64 a0_0, .bool a0_1, .int .i64 a0_2, .string a0_3, (.slice A0_4 l0_4.length c0_4), (.slice A0_5 l0_5.length c0_5)] 25 (0, 0))) ∧ Aside0 (Below w.heap.size w w'))
       case atStart => exact ⟨(1), (by first | rfl | (simp; done) | (simp [*]; done) | exact congrArg Value.bool (nil_ne _) | exact congrArg Value.bool (nil_eq _) | exact congrArg Value.bool (nil_ne' _)), H', ⟨Nat.le_refl _⟩, ⟨by (with_reducible repeat (first | refine qAg ?_ _ | refine qAh ?_ | refine blk_alloc ?_ _)); exact BK192.out⟩, ⟨by repeat (first | (with_reducible first | exact HB.out | apply qAd | apply qAc | apply qAe | refine qAf ?_ GE192.out) | exact HB.out)⟩⟩
       case round =>
        clear H'
        try clear c1
        try clear c2
        try clear p2
        try clear c3
        try clear c5
        try clear c5b0
        try clear c7
        try clear c8
        try clear c8b0
        try clear c12
        try clear c12b0
        try clear c16
        try clear c16b0
        try clear c25
        try clear c27
        try clear c27b0
        try clear c27b1
        try clear c30
        try clear hcz11_0
        try clear hcz11_1
        try clear hcz11_2
        try clear hcz11_3
        try clear hcz11_4
        try clear hcz11_5
        try clear hcz13_0
        try clear hcz13_1
        try clear hcz13_2
        try clear hcz13_3
        try clear hcz13_4
        try clear hcz13_5
        try clear hcz15_0
        try clear hcz15_1
        try clear hcz15_2
        try clear hcz15_3
        try clear hcz15_4
        try clear hcz15_5
        try clear hcz17_0
        try clear hcz17_1
        try clear hcz17_2
        try clear hcz17_3
        try clear hcz17_4
        try clear hcz17_5
        try clear hcz19_0
        try clear hcz19_1
        try clear hcz19_2
        try clear hcz19_3
        try clear hcz19_4
        try clear hcz19_5
        try clear hcz20_0
        try clear hcz20_1
        try clear hcz20_2
        try clear hcz20_3
        try clear hcz20_4
        try clear hcz20_5
        try clear hcz22_0
        try clear hcz22_1
        try clear hcz22_2
        try clear hcz22_3
        try clear hcz22_4
        try clear hcz22_5
        try clear hcz23_0
        try clear hcz23_1
        try clear hcz23_2
        try clear hcz23_3
        try clear hcz23_4
        try clear hcz23_5
        try clear hcz28_0
        try clear hcz28_1
        try clear hcz28_2
        try clear hcz28_3
        try clear hcz28_4
        try clear hcz28_5
        try clear hcz29_0
        try clear hcz29_1
        try clear hcz29_2
        try clear hcz29_3
        try clear hcz29_4
        try clear hcz29_5
        try clear hcz9_0
        try clear hcz9_1
        try clear hcz9_2
        try clear hcz9_3
        try clear hcz9_4
        try clear hcz9_5
        try clear hfz11_0
        try clear hfz11_1
        try clear hfz11_2
        try clear hfz11_3
        try clear hfz11_4
        try clear hfz11_5
        try clear hfz13_0
        try clear hfz13_1
        try clear hfz13_2
        try clear hfz13_3
        try clear hfz13_4
        try clear hfz13_5
        try clear hfz15_0
        try clear hfz15_1
        try clear hfz15_2
        try clear hfz15_3
        try clear hfz15_4
        try clear hfz15_5
        try clear hfz17_0
        try clear hfz17_1
        try clear hfz17_2
        try clear hfz17_3
        try clear hfz17_4
        try clear hfz17_5
        try clear hfz19_0
        try clear hfz19_1
        try clear hfz19_2
        try clear hfz19_3
        try clear hfz19_4
        try clear hfz19_5
        try clear hfz20_0
        try clear hfz20_1
        try clear hfz20_2
        try clear hfz20_3
        try clear hfz20_4
        try clear hfz20_5
        try clear hfz22_0
        try clear hfz22_1
        try clear hfz22_2
        try clear hfz22_3
        try clear hfz22_4
        try clear hfz22_5
        try clear hfz23_0
        try clear hfz23_1
        try clear hfz23_2
        try clear hfz23_3
        try clear hfz23_4
        try clear hfz23_5
        try clear hfz28_0
        try clear hfz28_1
        try clear hfz28_2
        try clear hfz28_3
        try clear hfz28_4
        try clear hfz28_5
        try clear hfz29_0
        try clear hfz29_1
        try clear hfz29_2
        try clear hfz29_3
        try clear hfz29_4
        try clear hfz29_5
        try clear hfz9_0
        try clear hfz9_1
        try clear hfz9_2
        try clear hfz9_3
        try clear hfz9_4
        try clear hfz9_5
        try clear p2
        obtain ⟨x5_3, rfl, HA, HK3, BK192, HB⟩ := hrel
        cases gk with
        | zero => exact absurd HA.out (by simp [hogsheadref15_may.l0])
        | succ k3 =>
         have H := HA.out
         clear HA
         simp only [hogsheadref15_may.l0] at H
         by_cases c31 : x5_3 < (l0_5.length : Int)
         ·rw [if_pos c31] at H
          have c31b0 : decide (x5_3 < (l0_5.length : Int)) = true := decide_eq_true c31
          clear c31
          obtain ⟨ji32, hji32⟩ : ∃ j_ : Int, (wrap64 (x5_3 - 1)) = j_ := ⟨_, rfl⟩
          replace H : (if 0 ≤ (ji32) then (if (ji32) < (l0_5.length : Int) then (if 0 ≤ x5_3 then (if ((Op.bytesLess ((rdOf ByteArray.empty l0_5 (ji32)).toList) ((rdOf ByteArray.empty l0_5 x5_3).toList)) = true) then (hogsheadref15_may.l0 k3 a1 (wrap64 (x5_3 + 1)) a0_0 a0_1 a0_2 a0_3 l0_4 l0_5) else (some false)) else (none)) else (none)) else (none)) = some r := by first | (rw [hji32] at H; exact H) | (simp only [hji32] at H ⊢; exact H)
          have hji32w : (IntKind.i64.wrap (x5_3 - 1)) = ji32 := (i64_w _).trans hji32
          by_cases c33 : 0 ≤ (ji32)
          ·rw [if_pos c33] at H
           have c33b0 : decide (0 ≤ (ji32)) = true := decide_eq_true c33
           clear c33
           by_cases c34 : (ji32) < (l0_5.length : Int)
           ·rw [if_pos c34] at H
            have c34b0 : decide ((ji32) < (l0_5.length : Int)) = true := decide_eq_true c34
            clear c34
            by_cases c35 : 0 ≤ x5_3
            ·rw [if_pos c35] at H
             have c35b0 : decide (0 ≤ x5_3) = true := decide_eq_true c35
             clear c35
             by_cases c36 : ((Op.bytesLess ((rdOf ByteArray.empty l0_5 (ji32)).toList) ((rdOf ByteArray.empty l0_5 x5_3).toList)) = true)
             ·rw [if_pos c36] at H
              have c36b0 : (Op.bytesLess ((rdOf ByteArray.empty l0_5 (ji32)).toList) ((rdOf ByteArray.empty l0_5 x5_3).toList)) = true := c36
              clear c36
              have H' := Aside0.mk H
              clear H
              have hcz37_0 : wr.cell? ⟨gb192, 0, none⟩ = some (.int .i64 a0_0) := (qAa BK192.out 0).trans rfl
              have hcz37_1 : wr.cell? ⟨gb192, 1, none⟩ = some (.bool a0_1) := (qAa BK192.out 1).trans rfl
              have hcz37_2 : wr.cell? ⟨gb192, 2, none⟩ = some (.int .i64 a0_2) := (qAa BK192.out 2).trans rfl
              have hcz37_3 : wr.cell? ⟨gb192, 3, none⟩ = some (.string a0_3) := (qAa BK192.out 3).trans rfl
              have hcz37_4 : wr.cell? ⟨gb192, 4, none⟩ = some (.slice A0_4 l0_4.length c0_4) := (qAa BK192.out 4).trans rfl
              have hcz37_5 : wr.cell? ⟨gb192, 5, none⟩ = some (.slice A0_5 l0_5.length c0_5) := (qAa BK192.out 5).trans rfl
              have hfz37_0 := qAb BK192.out 0
              have hfz37_1 := qAb BK192.out 1
              have hfz37_2 := qAb BK192.out 2
              have hfz37_3 := qAb BK192.out 3
              have hfz37_4 := qAb BK192.out 4
              have hfz37_5 := qAb BK192.out 5
              have p194 : 0 ≤ ((ji32) : Int) := of_decide_eq_true (by first | (with_reducible assumption) | assumption)
              have q194 : (ji32) < (l0_5.length : Int) := of_decide_eq_true (by first | (with_reducible assumption) | assumption)
              obtain ⟨ad194, e194, hx194_0⟩ := Kd.at_string HR0_5.out (ji32) p194 q194
              cases e194
              replace hx194_0 := (HB.out.cell (World.block_lt_of_cell? w _ hx194_0)).trans hx194_0
              replace p194 := eq_true p194
              replace q194 := eq_true q194
              have p195 : 0 ≤ (x5_3 : Int) := of_decide_eq_true (by first | (with_reducible assumption) | assumption)
              have q195 : x5_3 < (l0_5.length : Int) := of_decide_eq_true (by first | (with_reducible assumption) | assumption)
              obtain ⟨ad195, e195, hx195_0⟩ := Kd.at_string HR0_5.out x5_3 p195 q195
              obtain rfl : ad194 = ad195 := (by injection e195)
              replace hx195_0 := (HB.out.cell (World.block_lt_of_cell? w _ hx195_0)).trans hx195_0
              replace p195 := eq_true p195
              replace q195 := eq_true q195
              go_wp2
              repeat (go_quiet (fail); try go_wp2)
              go_roundg k3
              case measure => have := HJ2.out; have := HJ25.out; have := HK3.out; omega
              case rel => exact ⟨(wrap64 (x5_3 + 1)), (by first | rfl | (simp; done) | (simp [*]; done) | exact congrArg Value.bool (nil_ne _) | exact congrArg Value.bool (nil_eq _) | exact congrArg Value.bool (nil_ne' _)), H', ⟨by have := HJ2.out; have := HJ25.out; have := HK3.out; omega⟩, ⟨by (with_reducible repeat (first | refine qAg ?_ _ | refine qAh ?_ | refine blk_alloc ?_ _)); exact BK192.out⟩, ⟨by repeat (first | (with_reducible first | exact HB.out | apply qAd | apply qAc | apply qAe | refine qAf ?_ GE192.out) | exact HB.out)⟩⟩
             ·rw [if_neg c36] at H
              have c36b0 : (Op.bytesLess ((rdOf ByteArray.empty l0_5 (ji32)).toList) ((rdOf ByteArray.empty l0_5 x5_3).toList)) = false := by simpa using c36
              clear c36
              obtain rfl := Option.some.inj H
              have hcz38_0 : wr.cell? ⟨gb192, 0, none⟩ = some (.int .i64 a0_0) := (qAa BK192.out 0).trans rfl
              have hcz38_1 : wr.cell? ⟨gb192, 1, none⟩ = some (.bool a0_1) := (qAa BK192.out 1).trans rfl
              have hcz38_2 : wr.cell? ⟨gb192, 2, none⟩ = some (.int .i64 a0_2) := (qAa BK192.out 2).trans rfl
              have hcz38_3 : wr.cell? ⟨gb192, 3, none⟩ = some (.string a0_3) := (qAa BK192.out 3).trans rfl
              have hcz38_4 : wr.cell? ⟨gb192, 4, none⟩ = some (.slice A0_4 l0_4.length c0_4) := (qAa BK192.out 4).trans rfl
              have hcz38_5 : wr.cell? ⟨gb192, 5, none⟩ = some (.slice A0_5 l0_5.length c0_5) := (qAa BK192.out 5).trans rfl
              have hfz38_0 := qAb BK192.out 0
              have hfz38_1 := qAb BK192.out 1
              have hfz38_2 := qAb BK192.out 2
              have hfz38_3 := qAb BK192.out 3
              have hfz38_4 := qAb BK192.out 4
              have hfz38_5 := qAb BK192.out 5
              have p194 : 0 ≤ ((ji32) : Int) := of_decide_eq_true (by first | (with_reducible assumption) | assumption)
              have q194 : (ji32) < (l0_5.length : Int) := of_decide_eq_true (by first | (with_reducible assumption) | assumption)
              obtain ⟨ad194, e194, hx194_0⟩ := Kd.at_string HR0_5.out (ji32) p194 q194
              cases e194
              replace hx194_0 := (HB.out.cell (World.block_lt_of_cell? w _ hx194_0)).trans hx194_0
              replace p194 := eq_true p194
              replace q194 := eq_true q194
              have p195 : 0 ≤ (x5_3 : Int) := of_decide_eq_true (by first | (with_reducible assumption) | assumption)
              have q195 : x5_3 < (l0_5.length : Int) := of_decide_eq_true (by first | (with_reducible assumption) | assumption)
              obtain ⟨ad195, e195, hx195_0⟩ := Kd.at_string HR0_5.out x5_3 p195 q195
              obtain rfl : ad194 = ad195 := (by injection e195)
              replace hx195_0 := (HB.out.cell (World.block_lt_of_cell? w _ hx195_0)).trans hx195_0
              replace p195 := eq_true p195
              replace q195 := eq_true q195
              go_wp2
              repeat (go_quiet (fail); try go_wp2)
              go_ret
              exact ⟨by first | rfl | (simp [qAn, qAm] <;> rfl) | (simp only [← hji32]; first | rfl | (simp [qAn, qAm] <;> rfl)) | (simp [*, qAn, qAm] <;> rfl), by repeat (first | (with_reducible first | exact HB.out | apply qAd | apply qAc | apply qAe | refine qAf ?_ GE192.out) | exact HB.out)⟩
            ·rw [if_neg c35] at H
             exact absurd H (by simp)
           ·rw [if_neg c34] at H
            exact absurd H (by simp)
          ·rw [if_neg c33] at H
           exact absurd H (by simp)
         ·rw [if_neg c31] at H
          have c31b0 : decide (x5_3 < (l0_5.length : Int)) = false := decide_eq_false c31
          clear c31
          have H' := Aside0.mk H
          clear H
          have hcz39_0 : wr.cell? ⟨gb192, 0, none⟩ = some (.int .i64 a0_0) := (qAa BK192.out 0).trans rfl
          have hcz39_1 : wr.cell? ⟨gb192, 1, none⟩ = some (.bool a0_1) := (qAa BK192.out 1).trans rfl
          have hcz39_2 : wr.cell? ⟨gb192, 2, none⟩ = some (.int .i64 a0_2) := (qAa BK192.out 2).trans rfl
          have hcz39_3 : wr.cell? ⟨gb192, 3, none⟩ = some (.string a0_3) := (qAa BK192.out 3).trans rfl
          have hcz39_4 : wr.cell? ⟨gb192, 4, none⟩ = some (.slice A0_4 l0_4.length c0_4) := (qAa BK192.out 4).trans rfl
          have hcz39_5 : wr.cell? ⟨gb192, 5, none⟩ = some (.slice A0_5 l0_5.length c0_5) := (qAa BK192.out 5).trans rfl
          have hfz39_0 := qAb BK192.out 0
          have hfz39_1 := qAb BK192.out 1
          have hfz39_2 := qAb BK192.out 2
          have hfz39_3 := qAb BK192.out 3
          have hfz39_4 := qAb BK192.out 4
          have hfz39_5 := qAb BK192.out 5
          go_wp2
          repeat (go_quiet (fail); try go_wp2)
          go_loopg [6] k3 (fun kq v6 w' => ∃ (x6_4 : Int), v6 = .int .i64 x6_4 ∧ Aside0 (hogsheadref15_may.l1 kq a1 x6_4 a0_0 a0_1 a0_2 a0_3 l0_4 l0_5 = some r) ∧ Aside0 (kq ≤ k3) ∧ Aside0 (w'.heap[gb192]? = some (.cells #[.int .i64 a0_0, .bool a0_1, .int .i64 a0_2, .string a0_3, (.slice A0_4 l0_4.length c0_4), (.slice A0_5 l0_5.length c0_5)] 25 (0, 0))) ∧ Aside0 (Below w.heap.size w w'))
          case atStart => exact ⟨(0), (by first | rfl | (simp; done) | (simp [*]; done) | exact congrArg Value.bool (nil_ne _) | exact congrArg Value.bool (nil_eq _) | exact congrArg Value.bool (nil_ne' _)), H', ⟨Nat.le_refl _⟩, ⟨by (with_reducible repeat (first | refine qAg ?_ _ | refine qAh ?_ | refine blk_alloc ?_ _)); exact BK192.out⟩, ⟨by repeat (first | (with_reducible first | exact HB.out | apply qAd | apply qAc | apply qAe | refine qAf ?_ GE192.out) | exact HB.out)⟩⟩
          case round =>
           clear H'
           try clear c1
           try clear p1
           try clear q1
           try clear hx1
           try clear c2
           try clear p2
           try clear c3
           try clear c5
           try clear c5b0
           try clear p6
           try clear c7
           try clear c8
           try clear c8b0
           try clear c12
           try clear c12b0
           try clear c16
           try clear c16b0
           try clear p19
           try clear q19
           try clear hx19
           try clear c25
           try clear c27
           try clear c27b0
           try clear c27b1
           try clear c30
           try clear c31
           try clear c31b0
           try clear c33
           try clear c33b0
           try clear c34
           try clear c34b0
           try clear c35
           try clear c35b0
           try clear c36
           try clear c36b0
           try clear hcz11_0
           try clear hcz11_1
           try clear hcz11_2
           try clear hcz11_3
           try clear hcz11_4
           try clear hcz11_5
           try clear hcz13_0
           try clear hcz13_1
           try clear hcz13_2
           try clear hcz13_3
           try clear hcz13_4
           try clear hcz13_5
           try clear hcz15_0
           try clear hcz15_1
           try clear hcz15_2
           try clear hcz15_3
           try clear hcz15_4
           try clear hcz15_5
           try clear hcz17_0
           try clear hcz17_1
           try clear hcz17_2
           try clear hcz17_3
           try clear hcz17_4
           try clear hcz17_5
           try clear hcz19_0
           try clear hcz19_1
           try clear hcz19_2
           try clear hcz19_3
           try clear hcz19_4
           try clear hcz19_5
           try clear hcz20_0
           try clear hcz20_1
           try clear hcz20_2
           try clear hcz20_3
           try clear hcz20_4
           try clear hcz20_5
           try clear hcz22_0
           try clear hcz22_1
           try clear hcz22_2
           try clear hcz22_3
           try clear hcz22_4
           try clear hcz22_5
           try clear hcz23_0
           try clear hcz23_1
           try clear hcz23_2
           try clear hcz23_3
           try clear hcz23_4
           try clear hcz23_5
           try clear hcz28_0
           try clear hcz28_1
           try clear hcz28_2
           try clear hcz28_3
           try clear hcz28_4
           try clear hcz28_5
           try clear hcz29_0
           try clear hcz29_1
           try clear hcz29_2
           try clear hcz29_3
           try clear hcz29_4
           try clear hcz29_5
           try clear hcz37_0
           try clear hcz37_1
           try clear hcz37_2
           try clear hcz37_3
           try clear hcz37_4
           try clear hcz37_5
           try clear hcz38_0
           try clear hcz38_1
           try clear hcz38_2
           try clear hcz38_3
           try clear hcz38_4
           try clear hcz38_5
           try clear hcz39_0
           try clear hcz39_1
           try clear hcz39_2
           try clear hcz39_3
           try clear hcz39_4
           try clear hcz39_5
           try clear hcz9_0
           try clear hcz9_1
           try clear hcz9_2
           try clear hcz9_3
           try clear hcz9_4
           try clear hcz9_5
           try clear hfz11_0
           try clear hfz11_1
           try clear hfz11_2
           try clear hfz11_3
           try clear hfz11_4
           try clear hfz11_5
           try clear hfz13_0
           try clear hfz13_1
           try clear hfz13_2
           try clear hfz13_3
           try clear hfz13_4
           try clear hfz13_5
           try clear hfz15_0
           try clear hfz15_1
           try clear hfz15_2
           try clear hfz15_3
           try clear hfz15_4
           try clear hfz15_5
           try clear hfz17_0
           try clear hfz17_1
           try clear hfz17_2
           try clear hfz17_3
           try clear hfz17_4
           try clear hfz17_5
           try clear hfz19_0
           try clear hfz19_1
           try clear hfz19_2
           try clear hfz19_3
           try clear hfz19_4
           try clear hfz19_5
           try clear hfz20_0
           try clear hfz20_1
           try clear hfz20_2
           try clear hfz20_3
           try clear hfz20_4
           try clear hfz20_5
           try clear hfz22_0
           try clear hfz22_1
           try clear hfz22_2
           try clear hfz22_3
           try clear hfz22_4
           try clear hfz22_5
           try clear hfz23_0
           try clear hfz23_1
           try clear hfz23_2
           try clear hfz23_3
           try clear hfz23_4
           try clear hfz23_5
           try clear hfz28_0
           try clear hfz28_1
           try clear hfz28_2
           try clear hfz28_3
           try clear hfz28_4
           try clear hfz28_5
           try clear hfz29_0
           try clear hfz29_1
           try clear hfz29_2
           try clear hfz29_3
           try clear hfz29_4
           try clear hfz29_5
           try clear hfz37_0
           try clear hfz37_1
           try clear hfz37_2
           try clear hfz37_3
           try clear hfz37_4
           try clear hfz37_5
           try clear hfz38_0
           try clear hfz38_1
           try clear hfz38_2
           try clear hfz38_3
           try clear hfz38_4
           try clear hfz38_5
           try clear hfz39_0
           try clear hfz39_1
           try clear hfz39_2
           try clear hfz39_3
           try clear hfz39_4
           try clear hfz39_5
           try clear hfz9_0
           try clear hfz9_1
           try clear hfz9_2
           try clear hfz9_3
           try clear hfz9_4
           try clear hfz9_5
           try clear hx194_0
           try clear hx195_0
           try clear p194
           try clear p195
           try clear p2
           try clear q194
           try clear q195
           obtain ⟨x6_4, rfl, HA, HK4, BK192, HB⟩ := hrel
           cases gk with
           | zero => exact absurd HA.out (by simp [hogsheadref15_may.l1])
           | succ k4 =>
            have H := HA.out
            clear HA
            simp only [hogsheadref15_may.l1] at H
            by_cases c40 : x6_4 < (l0_4.length : Int)
            ·rw [if_pos c40] at H
             have c40b0 : decide (x6_4 < (l0_4.length : Int)) = true := decide_eq_true c40
             clear c40
             by_cases c41 : 0 ≤ x6_4
             ·rw [if_pos c41] at H
              have c41b0 : decide (0 ≤ x6_4) = true := decide_eq_true c41
              clear c41
              replace H := Option.bind_eq_some_iff.mp H
              obtain ⟨t197, A420, H⟩ := H
              replace H : (if t197 = true then (hogsheadref15_may.l1 k4 a1 (wrap64 (x6_4 + 1)) a0_0 a0_1 a0_2 a0_3 l0_4 l0_5) else (some false)) = some r := H
              have A42 := Aside0.mk A420
              clear A420
              by_cases c43 : t197 = true
              ·subst c43
               have H1 : (hogsheadref15_may.l1 k4 a1 (wrap64 (x6_4 + 1)) a0_0 a0_1 a0_2 a0_3 l0_4 l0_5) = some r := by rw [if_pos rfl] at H; exact H
               clear H
               have H := H1
               clear H1
               have H' := Aside0.mk H
               clear H
               have hcz44_0 : wr.cell? ⟨gb192, 0, none⟩ = some (.int .i64 a0_0) := (qAa BK192.out 0).trans rfl
               have hcz44_1 : wr.cell? ⟨gb192, 1, none⟩ = some (.bool a0_1) := (qAa BK192.out 1).trans rfl
               have hcz44_2 : wr.cell? ⟨gb192, 2, none⟩ = some (.int .i64 a0_2) := (qAa BK192.out 2).trans rfl
               have hcz44_3 : wr.cell? ⟨gb192, 3, none⟩ = some (.string a0_3) := (qAa BK192.out 3).trans rfl
               have hcz44_4 : wr.cell? ⟨gb192, 4, none⟩ = some (.slice A0_4 l0_4.length c0_4) := (qAa BK192.out 4).trans rfl
               have hcz44_5 : wr.cell? ⟨gb192, 5, none⟩ = some (.slice A0_5 l0_5.length c0_5) := (qAa BK192.out 5).trans rfl
               have hfz44_0 := qAb BK192.out 0
               have hfz44_1 := qAb BK192.out 1
               have hfz44_2 := qAb BK192.out 2
               have hfz44_3 := qAb BK192.out 3
               have hfz44_4 := qAb BK192.out 4
               have hfz44_5 := qAb BK192.out 5
               have p196 : 0 ≤ (x6_4 : Int) := of_decide_eq_true (by first | (with_reducible assumption) | assumption)
               have q196 : x6_4 < (l0_4.length : Int) := of_decide_eq_true (by first | (with_reducible assumption) | assumption)
               obtain ⟨ad196, A196_4, c196_4, A196_5, c196_5, e196, hx196_0, hx196_1, hx196_2, hx196_3, hx196_4, hx196_5, hl196_4, hi196_4, hl196_5, hi196_5⟩ := at_T25 HR0_4.out x6_4 p196 q196
               cases e196
               replace hx196_0 := (HB.out.cell (World.block_lt_of_cell? w _ hx196_0)).trans hx196_0
               replace hx196_1 := (HB.out.cell (World.block_lt_of_cell? w _ hx196_1)).trans hx196_1
               replace hx196_2 := (HB.out.cell (World.block_lt_of_cell? w _ hx196_2)).trans hx196_2
               replace hx196_3 := (HB.out.cell (World.block_lt_of_cell? w _ hx196_3)).trans hx196_3
               replace hx196_4 := (HB.out.cell (World.block_lt_of_cell? w _ hx196_4)).trans hx196_4
               replace hx196_5 := (HB.out.cell (World.block_lt_of_cell? w _ hx196_5)).trans hx196_5
               have HR196_4 := Aside0.mk hi196_4
               have HC196_4 := Aside0.mk hl196_4
               clear hi196_4 hl196_4
               have HR196_5 := Aside0.mk hi196_5
               have HC196_5 := Aside0.mk hl196_5
               clear hi196_5 hl196_5
               replace p196 := eq_true p196
               replace q196 := eq_true q196
               go_wp2_with (first | (go_at_call 53; (with_reducible refine (ih k4 (by have := HJ2.out; have := HJ25.out; have := HK3.out; have := HK4.out; omega) ((rd_T25 l0_4 x6_4).f0) ((rd_T25 l0_4 x6_4).f1) ((rd_T25 l0_4 x6_4).f2) ((rd_T25 l0_4 x6_4).f3) _ _ ((rd_T25 l0_4 x6_4).f4) _ _ ((rd_T25 l0_4 x6_4).f5) (wrap64 (a1 - 1)) true _ ?side1 ?side2 ?side3 ?side4 A42.out).mono ?_); (case side1 => repeat (first | exact (Kd.C_below HR196_4.out HB.out) | (with_reducible refine Kd.C_alloc ?_ _) | (with_reducible refine Kd.C_drewN ?_ _) | (with_reducible refine Kd.C_drew ?_))); (case side2 => exact HC196_4.out); (case side3 => repeat (first | exact (Kd.C_below HR196_5.out HB.out) | (with_reducible refine Kd.C_alloc ?_ _) | (with_reducible refine Kd.C_drewN ?_ _) | (with_reducible refine Kd.C_drew ?_))); (case side4 => exact HC196_5.out); rintro e w45 ⟨rfl, hb⟩; have n0_ := Aside0.mk (qAi (g := gb192) (o := .cells #[.int .i64 a0_0, .bool a0_1, .int .i64 a0_2, .string a0_3, .slice (some ad196) l0_4.length c0_4, .slice A0_5 l0_5.length c0_5] 25 (0, 0)) (by (with_reducible repeat (first | refine qAg ?_ _ | refine qAh ?_ | refine blk_alloc ?_ _)); exact BK192.out) hb); have n1_ := Aside0.mk (qAj (by repeat (first | (with_reducible first | exact HB.out | apply qAd | apply qAc | apply qAe | refine qAf ?_ GE192.out) | exact HB.out)) hb); clear BK192; clear HB; have BK192 := n0_; have HB := n1_; clear n0_ n1_; (try clear hb); (try clear hb2); (try clear hk); (try clear hi)))
               repeat (go_quiet (first | (go_at_call 53; (with_reducible refine (ih k4 (by have := HJ2.out; have := HJ25.out; have := HK3.out; have := HK4.out; omega) ((rd_T25 l0_4 x6_4).f0) ((rd_T25 l0_4 x6_4).f1) ((rd_T25 l0_4 x6_4).f2) ((rd_T25 l0_4 x6_4).f3) _ _ ((rd_T25 l0_4 x6_4).f4) _ _ ((rd_T25 l0_4 x6_4).f5) (wrap64 (a1 - 1)) true _ ?side1 ?side2 ?side3 ?side4 A42.out).mono ?_); (case side1 => repeat (first | exact (Kd.C_below HR196_4.out HB.out) | (with_reducible refine Kd.C_alloc ?_ _) | (with_reducible refine Kd.C_drewN ?_ _) | (with_reducible refine Kd.C_drew ?_))); (case side2 => exact HC196_4.out); (case side3 => repeat (first | exact (Kd.C_below HR196_5.out HB.out) | (with_reducible refine Kd.C_alloc ?_ _) | (with_reducible refine Kd.C_drewN ?_ _) | (with_reducible refine Kd.C_drew ?_))); (case side4 => exact HC196_5.out); rintro e w45 ⟨rfl, hb⟩; have n0_ := Aside0.mk (qAi (g := gb192) (o := .cells #[.int .i64 a0_0, .bool a0_1, .int .i64 a0_2, .string a0_3, .slice (some ad196) l0_4.length c0_4, .slice A0_5 l0_5.length c0_5] 25 (0, 0)) (by (with_reducible repeat (first | refine qAg ?_ _ | refine qAh ?_ | refine blk_alloc ?_ _)); exact BK192.out) hb); have n1_ := Aside0.mk (qAj (by repeat (first | (with_reducible first | exact HB.out | apply qAd | apply qAc | apply qAe | refine qAf ?_ GE192.out) | exact HB.out)) hb); clear BK192; clear HB; have BK192 := n0_; have HB := n1_; clear n0_ n1_; (try clear hb); (try clear hb2); (try clear hk); (try clear hi))); try go_wp2_with (first | (go_at_call 53; (with_reducible refine (ih k4 (by have := HJ2.out; have := HJ25.out; have := HK3.out; have := HK4.out; omega) ((rd_T25 l0_4 x6_4).f0) ((rd_T25 l0_4 x6_4).f1) ((rd_T25 l0_4 x6_4).f2) ((rd_T25 l0_4 x6_4).f3) _ _ ((rd_T25 l0_4 x6_4).f4) _ _ ((rd_T25 l0_4 x6_4).f5) (wrap64 (a1 - 1)) true _ ?side1 ?side2 ?side3 ?side4 A42.out).mono ?_); (case side1 => repeat (first | exact (Kd.C_below HR196_4.out HB.out) | (with_reducible refine Kd.C_alloc ?_ _) | (with_reducible refine Kd.C_drewN ?_ _) | (with_reducible refine Kd.C_drew ?_))); (case side2 => exact HC196_4.out); (case side3 => repeat (first | exact (Kd.C_below HR196_5.out HB.out) | (with_reducible refine Kd.C_alloc ?_ _) | (with_reducible refine Kd.C_drewN ?_ _) | (with_reducible refine Kd.C_drew ?_))); (case side4 => exact HC196_5.out); rintro e w45 ⟨rfl, hb⟩; have n0_ := Aside0.mk (qAi (g := gb192) (o := .cells #[.int .i64 a0_0, .bool a0_1, .int .i64 a0_2, .string a0_3, .slice (some ad196) l0_4.length c0_4, .slice A0_5 l0_5.length c0_5] 25 (0, 0)) (by (with_reducible repeat (first | refine qAg ?_ _ | refine qAh ?_ | refine blk_alloc ?_ _)); exact BK192.out) hb); have n1_ := Aside0.mk (qAj (by repeat (first | (with_reducible first | exact HB.out | apply qAd | apply qAc | apply qAe | refine qAf ?_ GE192.out) | exact HB.out)) hb); clear BK192; clear HB; have BK192 := n0_; have HB := n1_; clear n0_ n1_; (try clear hb); (try clear hb2); (try clear hk); (try clear hi))))
               go_roundg k4
               case measure => have := HJ2.out; have := HJ25.out; have := HK3.out; have := HK4.out; omega
               case rel => exact ⟨(wrap64 (x6_4 + 1)), (by first | rfl | (simp; done) | (simp [*]; done) | exact congrArg Value.bool (nil_ne _) | exact congrArg Value.bool (nil_eq _) | exact congrArg Value.bool (nil_ne' _)), H', ⟨by have := HJ2.out; have := HJ25.out; have := HK3.out; have := HK4.out; omega⟩, ⟨by (with_reducible repeat (first | refine qAg ?_ _ | refine qAh ?_ | refine blk_alloc ?_ _)); exact BK192.out⟩, ⟨by repeat (first | (with_reducible first | exact HB.out | apply qAd | apply qAc | apply qAe | refine qAf ?_ GE192.out) | exact HB.out)⟩⟩
              ·replace c43 := Bool.eq_false_iff.mpr c43
               subst c43
               have H1 : (some false) = some r := by rw [if_neg (show ¬ (false = true) by decide)] at H; exact H
               clear H
               have H := H1
               clear H1
               obtain rfl := Option.some.inj H
               have hcz46_0 : wr.cell? ⟨gb192, 0, none⟩ = some (.int .i64 a0_0) := (qAa BK192.out 0).trans rfl
               have hcz46_1 : wr.cell? ⟨gb192, 1, none⟩ = some (.bool a0_1) := (qAa BK192.out 1).trans rfl
               have hcz46_2 : wr.cell? ⟨gb192, 2, none⟩ = some (.int .i64 a0_2) := (qAa BK192.out 2).trans rfl
               have hcz46_3 : wr.cell? ⟨gb192, 3, none⟩ = some (.string a0_3) := (qAa BK192.out 3).trans rfl
               have hcz46_4 : wr.cell? ⟨gb192, 4, none⟩ = some (.slice A0_4 l0_4.length c0_4) := (qAa BK192.out 4).trans rfl
               have hcz46_5 : wr.cell? ⟨gb192, 5, none⟩ = some (.slice A0_5 l0_5.length c0_5) := (qAa BK192.out 5).trans rfl
               have hfz46_0 := qAb BK192.out 0
               have hfz46_1 := qAb BK192.out 1
               have hfz46_2 := qAb BK192.out 2
               have hfz46_3 := qAb BK192.out 3
               have hfz46_4 := qAb BK192.out 4
               have hfz46_5 := qAb BK192.out 5
               have p196 : 0 ≤ (x6_4 : Int) := of_decide_eq_true (by first | (with_reducible assumption) | assumption)
               have q196 : x6_4 < (l0_4.length : Int) := of_decide_eq_true (by first | (with_reducible assumption) | assumption)
               obtain ⟨ad196, A196_4, c196_4, A196_5, c196_5, e196, hx196_0, hx196_1, hx196_2, hx196_3, hx196_4, hx196_5, hl196_4, hi196_4, hl196_5, hi196_5⟩ := at_T25 HR0_4.out x6_4 p196 q196
               cases e196
               replace hx196_0 := (HB.out.cell (World.block_lt_of_cell? w _ hx196_0)).trans hx196_0
               replace hx196_1 := (HB.out.cell (World.block_lt_of_cell? w _ hx196_1)).trans hx196_1
               replace hx196_2 := (HB.out.cell (World.block_lt_of_cell? w _ hx196_2)).trans hx196_2
               replace hx196_3 := (HB.out.cell (World.block_lt_of_cell? w _ hx196_3)).trans hx196_3
               replace hx196_4 := (HB.out.cell (World.block_lt_of_cell? w _ hx196_4)).trans hx196_4
               replace hx196_5 := (HB.out.cell (World.block_lt_of_cell? w _ hx196_5)).trans hx196_5
               have HR196_4 := Aside0.mk hi196_4
               have HC196_4 := Aside0.mk hl196_4
               clear hi196_4 hl196_4
               have HR196_5 := Aside0.mk hi196_5
               have HC196_5 := Aside0.mk hl196_5
               clear hi196_5 hl196_5
               replace p196 := eq_true p196
               replace q196 := eq_true q196
               go_wp2_with (first | (go_at_call 53; (with_reducible refine (ih k4 (by have := HJ2.out; have := HJ25.out; have := HK3.out; have := HK4.out; omega) ((rd_T25 l0_4 x6_4).f0) ((rd_T25 l0_4 x6_4).f1) ((rd_T25 l0_4 x6_4).f2) ((rd_T25 l0_4 x6_4).f3) _ _ ((rd_T25 l0_4 x6_4).f4) _ _ ((rd_T25 l0_4 x6_4).f5) (wrap64 (a1 - 1)) false _ ?side1 ?side2 ?side3 ?side4 A42.out).mono ?_); (case side1 => repeat (first | exact (Kd.C_below HR196_4.out HB.out) | (with_reducible refine Kd.C_alloc ?_ _) | (with_reducible refine Kd.C_drewN ?_ _) | (with_reducible refine Kd.C_drew ?_))); (case side2 => exact HC196_4.out); (case side3 => repeat (first | exact (Kd.C_below HR196_5.out HB.out) | (with_reducible refine Kd.C_alloc ?_ _) | (with_reducible refine Kd.C_drewN ?_ _) | (with_reducible refine Kd.C_drew ?_))); (case side4 => exact HC196_5.out); rintro e w47 ⟨rfl, hb⟩; have n0_ := Aside0.mk (qAi (g := gb192) (o := .cells #[.int .i64 a0_0, .bool a0_1, .int .i64 a0_2, .string a0_3, .slice (some ad196) l0_4.length c0_4, .slice A0_5 l0_5.length c0_5] 25 (0, 0)) (by (with_reducible repeat (first | refine qAg ?_ _ | refine qAh ?_ | refine blk_alloc ?_ _)); exact BK192.out) hb); have n1_ := Aside0.mk (qAj (by repeat (first | (with_reducible first | exact HB.out | apply qAd | apply qAc | apply qAe | refine qAf ?_ GE192.out) | exact HB.out)) hb); clear BK192; clear HB; have BK192 := n0_; have HB := n1_; clear n0_ n1_; (try clear hb); (try clear hb2); (try clear hk); (try clear hi)))
               repeat (go_quiet (first | (go_at_call 53; (with_reducible refine (ih k4 (by have := HJ2.out; have := HJ25.out; have := HK3.out; have := HK4.out; omega) ((rd_T25 l0_4 x6_4).f0) ((rd_T25 l0_4 x6_4).f1) ((rd_T25 l0_4 x6_4).f2) ((rd_T25 l0_4 x6_4).f3) _ _ ((rd_T25 l0_4 x6_4).f4) _ _ ((rd_T25 l0_4 x6_4).f5) (wrap64 (a1 - 1)) false _ ?side1 ?side2 ?side3 ?side4 A42.out).mono ?_); (case side1 => repeat (first | exact (Kd.C_below HR196_4.out HB.out) | (with_reducible refine Kd.C_alloc ?_ _) | (with_reducible refine Kd.C_drewN ?_ _) | (with_reducible refine Kd.C_drew ?_))); (case side2 => exact HC196_4.out); (case side3 => repeat (first | exact (Kd.C_below HR196_5.out HB.out) | (with_reducible refine Kd.C_alloc ?_ _) | (with_reducible refine Kd.C_drewN ?_ _) | (with_reducible refine Kd.C_drew ?_))); (case side4 => exact HC196_5.out); rintro e w47 ⟨rfl, hb⟩; have n0_ := Aside0.mk (qAi (g := gb192) (o := .cells #[.int .i64 a0_0, .bool a0_1, .int .i64 a0_2, .string a0_3, .slice (some ad196) l0_4.length c0_4, .slice A0_5 l0_5.length c0_5] 25 (0, 0)) (by (with_reducible repeat (first | refine qAg ?_ _ | refine qAh ?_ | refine blk_alloc ?_ _)); exact BK192.out) hb); have n1_ := Aside0.mk (qAj (by repeat (first | (with_reducible first | exact HB.out | apply qAd | apply qAc | apply qAe | refine qAf ?_ GE192.out) | exact HB.out)) hb); clear BK192; clear HB; have BK192 := n0_; have HB := n1_; clear n0_ n1_; (try clear hb); (try clear hb2); (try clear hk); (try clear hi))); try go_wp2_with (first | (go_at_call 53; (with_reducible refine (ih k4 (by have := HJ2.out; have := HJ25.out; have := HK3.out; have := HK4.out; omega) ((rd_T25 l0_4 x6_4).f0) ((rd_T25 l0_4 x6_4).f1) ((rd_T25 l0_4 x6_4).f2) ((rd_T25 l0_4 x6_4).f3) _ _ ((rd_T25 l0_4 x6_4).f4) _ _ ((rd_T25 l0_4 x6_4).f5) (wrap64 (a1 - 1)) false _ ?side1 ?side2 ?side3 ?side4 A42.out).mono ?_); (case side1 => repeat (first | exact (Kd.C_below HR196_4.out HB.out) | (with_reducible refine Kd.C_alloc ?_ _) | (with_reducible refine Kd.C_drewN ?_ _) | (with_reducible refine Kd.C_drew ?_))); (case side2 => exact HC196_4.out); (case side3 => repeat (first | exact (Kd.C_below HR196_5.out HB.out) | (with_reducible refine Kd.C_alloc ?_ _) | (with_reducible refine Kd.C_drewN ?_ _) | (with_reducible refine Kd.C_drew ?_))); (case side4 => exact HC196_5.out); rintro e w47 ⟨rfl, hb⟩; have n0_ := Aside0.mk (qAi (g := gb192) (o := .cells #[.int .i64 a0_0, .bool a0_1, .int .i64 a0_2, .string a0_3, .slice (some ad196) l0_4.length c0_4, .slice A0_5 l0_5.length c0_5] 25 (0, 0)) (by (with_reducible repeat (first | refine qAg ?_ _ | refine qAh ?_ | refine blk_alloc ?_ _)); exact BK192.out) hb); have n1_ := Aside0.mk (qAj (by repeat (first | (with_reducible first | exact HB.out | apply qAd | apply qAc | apply qAe | refine qAf ?_ GE192.out) | exact HB.out)) hb); clear BK192; clear HB; have BK192 := n0_; have HB := n1_; clear n0_ n1_; (try clear hb); (try clear hb2); (try clear hk); (try clear hi))))
               go_ret
               exact ⟨by first | rfl | (simp [qAn, qAm] <;> rfl) | (simp [*, qAn, qAm] <;> rfl), by repeat (first | (with_reducible first | exact HB.out | apply qAd | apply qAc | apply qAe | refine qAf ?_ GE192.out) | exact HB.out)⟩
             ·rw [if_neg c41] at H
              exact absurd H (by simp)
            ·rw [if_neg c40] at H
             have c40b0 : decide (x6_4 < (l0_4.length : Int)) = false := decide_eq_false c40
             clear c40
             obtain rfl := Option.some.inj H
             have hcz48_0 : wr.cell? ⟨gb192, 0, none⟩ = some (.int .i64 a0_0) := (qAa BK192.out 0).trans rfl
             have hcz48_1 : wr.cell? ⟨gb192, 1, none⟩ = some (.bool a0_1) := (qAa BK192.out 1).trans rfl
             have hcz48_2 : wr.cell? ⟨gb192, 2, none⟩ = some (.int .i64 a0_2) := (qAa BK192.out 2).trans rfl
             have hcz48_3 : wr.cell? ⟨gb192, 3, none⟩ = some (.string a0_3) := (qAa BK192.out 3).trans rfl
             have hcz48_4 : wr.cell? ⟨gb192, 4, none⟩ = some (.slice A0_4 l0_4.length c0_4) := (qAa BK192.out 4).trans rfl
             have hcz48_5 : wr.cell? ⟨gb192, 5, none⟩ = some (.slice A0_5 l0_5.length c0_5) := (qAa BK192.out 5).trans rfl
             have hfz48_0 := qAb BK192.out 0
             have hfz48_1 := qAb BK192.out 1
             have hfz48_2 := qAb BK192.out 2
             have hfz48_3 := qAb BK192.out 3
             have hfz48_4 := qAb BK192.out 4
             have hfz48_5 := qAb BK192.out 5
             go_wp2
             repeat (go_quiet (fail); try go_wp2)
             go_ret
             exact ⟨by first | rfl | (simp [qAn, qAm] <;> rfl) | (simp [*, qAn, qAm] <;> rfl), by repeat (first | (with_reducible first | exact HB.out | apply qAd | apply qAc | apply qAe | refine qAf ?_ GE192.out) | exact HB.out)⟩
end Go.Proofs.YtbnoihpooeombaaDoor.P

namespace Go.Proofs.YtbnoihpooeombaaDoor.P
open Go.Proofs.YtbnoihpooeombaaDoor.X
open Go.RowKit Go.Proofs.YtbnoihpooeombaaDoorW.PrintWords Go.Proofs.YtbnoihpooeombaaDoorW.PrintLast Go.Proofs.YtbnoihpooeombaaDoorW.PrintMore
attribute [local go_sem] qAz qA5
set_option linter.unusedVariables false
set_option linter.unusedSimpArgs false
def hogsheadref15_May.f (k : Nat) (a0_0 : Int) (a0_1 : Bool) (a0_2 : Int) (a0_3 : ByteArray) (l0_4 : List (S25)) (l0_5 : List ByteArray) : Option (Bool) := (hogsheadref15_Count.f k a0_0 a0_1 a0_2 a0_3 l0_4 l0_5 20).bind fun t199 => (if t199 ≤ 4000 then ((hogsheadref15_may.f k a0_0 a0_1 a0_2 a0_3 l0_4 l0_5 16).bind fun t200 => (some t200)) else (some false))
set_option maxHeartbeats 8000000 in
set_option maxRecDepth 100000 in
theorem hogsheadref15_May.calls (k : Nat) (a0_0 : Int) (a0_1 : Bool) (a0_2 : Int) (a0_3 : ByteArray) (A0_4 : Option Addr) (c0_4 : Nat) (l0_4 : List (S25)) (A0_5 : Option Addr) (c0_5 : Nat) (l0_5 : List ByteArray) (r : Bool) (w : World) (hr0_4 : Kd.C k25 w A0_4 l0_4.length l0_4) (hc0_4 : l0_4.length ≤ c0_4) (hr0_5 : Kd.C Kd.string w A0_5 l0_5.length l0_5) (hc0_5 : l0_5.length ≤ c0_5) (h : hogsheadref15_May.f k a0_0 a0_1 a0_2 a0_3 l0_4 l0_5 = some r) :
  Calls Tryd.prog 22 #[.agg #[.int .i64 a0_0, .bool a0_1, .int .i64 a0_2, .string a0_3, .slice A0_4 l0_4.length c0_4, .slice A0_5 l0_5.length c0_5]] w fun e w' => e = .returned (.bool r) ∧ Below w.heap.size w w' := by
 have hu25 := Tryd.underlying25
 have HR0_4 := Aside0.mk hr0_4
 have HC0_4 := Aside0.mk hc0_4
 clear hr0_4 hc0_4
 have HR0_5 := Aside0.mk hr0_5
 have HC0_5 := Aside0.mk hc0_5
 clear hr0_5 hc0_5
 have HB := Aside0.mk (Below.refl w.heap.size w)
 have H : ((hogsheadref15_Count.f k a0_0 a0_1 a0_2 a0_3 l0_4 l0_5 20).bind fun t199 => (if t199 ≤ 4000 then ((hogsheadref15_may.f k a0_0 a0_1 a0_2 a0_3 l0_4 l0_5 16).bind fun t200 => (some t200)) else (some false))) = some r := h
 clear h
 replace H := Option.bind_eq_some_iff.mp H
 obtain ⟨t199, A20, H⟩ := H
 replace H : (if t199 ≤ 4000 then ((hogsheadref15_may.f k a0_0 a0_1 a0_2 a0_3 l0_4 l0_5 16).bind fun t200 => (some t200)) else (some false)) = some r := H
 have A2 := Aside0.mk A20
 clear A20
 by_cases c3 : t199 ≤ 4000
 ·rw [if_pos c3] at H
  have c3b0 : decide (t199 ≤ 4000) = true := decide_eq_true c3
  clear c3
  replace H := Option.bind_eq_some_iff.mp H
  obtain ⟨t200, A40, H⟩ := H
  replace H : (some t200) = some r := H
  have A4 := Aside0.mk A40
  clear A40
  obtain rfl := Option.some.inj H
  go_enter Tryd.func22, Tryd.ntmps22
  go_wp2_with (first | ((with_reducible refine qAv (N := 1) rfl ?_); refine qAu ?hg (N := 1) ?hd (cs := #[.int .i64 a0_0, .bool a0_1, .int .i64 a0_2, .string a0_3, .slice A0_4 l0_4.length c0_4, .slice A0_5 l0_5.length c0_5]) (t := 25) ?hr ?_; (case hd => rfl); (case hg => rfl); (case hr => first | (go_simp; done) | (go_simp; rfl)); intro gb198 hg w5 hbox hb; have n0_ := Aside0.mk (qAj (by repeat (first | (with_reducible first | exact HB.out | apply qAd | apply qAc | apply qAe) | exact HB.out)) hb); have n1_ := Aside0.mk (hbox); have n2_ := Aside0.mk ((by rw [hg]; exact (qAl (by repeat (first | (with_reducible first | exact HB.out | apply qAd | apply qAc | apply qAe) | exact HB.out))) : w.heap.size ≤ gb198)); have n3_ := Aside0.mk ((by rw [hg]; exact (qAl (by repeat (first | (with_reducible first | exact HB.out | apply qAd | apply qAc | apply qAe) | exact HB.out))) : w.heap.size ≤ gb198)); clear HB; have HB := n0_; have BK198 := n1_; have GW198 := n2_; have GE198 := n3_; clear n0_ n1_ n2_ n3_; clear hb hbox hg; have hcz6_0 : w5.cell? ⟨gb198, 0, none⟩ = some (.int .i64 a0_0) := (qAa BK198.out 0).trans rfl; have hcz6_1 : w5.cell? ⟨gb198, 1, none⟩ = some (.bool a0_1) := (qAa BK198.out 1).trans rfl; have hcz6_2 : w5.cell? ⟨gb198, 2, none⟩ = some (.int .i64 a0_2) := (qAa BK198.out 2).trans rfl; have hcz6_3 : w5.cell? ⟨gb198, 3, none⟩ = some (.string a0_3) := (qAa BK198.out 3).trans rfl; have hcz6_4 : w5.cell? ⟨gb198, 4, none⟩ = some (.slice A0_4 l0_4.length c0_4) := (qAa BK198.out 4).trans rfl; have hcz6_5 : w5.cell? ⟨gb198, 5, none⟩ = some (.slice A0_5 l0_5.length c0_5) := (qAa BK198.out 5).trans rfl; have hfz6_0 := qAb BK198.out 0; have hfz6_1 := qAb BK198.out 1; have hfz6_2 := qAb BK198.out 2; have hfz6_3 := qAb BK198.out 3; have hfz6_4 := qAb BK198.out 4; have hfz6_5 := qAb BK198.out 5) | ((with_reducible refine qAp (f := 52) rfl ?_); refine goesL_ (some 4) rfl rfl Tryd.func52 (by kernel_rfl) rfl #[.agg #[.int .i64 a0_0, .bool a0_1, .int .i64 a0_2, .string a0_3, .slice A0_4 l0_4.length c0_4, .slice A0_5 l0_5.length c0_5], .int .i64 20] rfl (by (try simp only [List.map_toArray, List.map_cons, List.map_nil]); first | done | rfl | (simp only [List.length_drop, List.length_take]; rfl)) ?_; (with_reducible refine (hogsheadref15_Count.calls k a0_0 a0_1 a0_2 a0_3 _ _ l0_4 _ _ l0_5 20 t199 _ ?side1 ?side2 ?side3 ?side4 A2.out).mono ?_); (case side1 => repeat (first | exact (Kd.C_below HR0_4.out HB.out) | (with_reducible refine Kd.C_alloc ?_ _) | (with_reducible refine Kd.C_drewN ?_ _) | (with_reducible refine Kd.C_drew ?_))); (case side2 => exact HC0_4.out); (case side3 => repeat (first | exact (Kd.C_below HR0_5.out HB.out) | (with_reducible refine Kd.C_alloc ?_ _) | (with_reducible refine Kd.C_drewN ?_ _) | (with_reducible refine Kd.C_drew ?_))); (case side4 => exact HC0_5.out); rintro e w7 ⟨rfl, hb⟩; refine ⟨_, rfl, ?_⟩; have n0_ := Aside0.mk (qAi (g := gb198) (o := .cells #[.int .i64 a0_0, .bool a0_1, .int .i64 a0_2, .string a0_3, .slice A0_4 l0_4.length c0_4, .slice A0_5 l0_5.length c0_5] 25 (0, 0)) (by (with_reducible repeat (first | refine qAg ?_ _ | refine qAh ?_ | refine blk_alloc ?_ _)); exact BK198.out) hb); have n1_ := Aside0.mk (qAj (by repeat (first | (with_reducible first | exact HB.out | apply qAd | apply qAc | apply qAe | refine qAf ?_ GE198.out) | exact HB.out)) hb); clear BK198; clear HB; have BK198 := n0_; have HB := n1_; clear n0_ n1_; (try clear hb); (try clear hb2); (try clear hk); (try clear hi); have hcz8_0 : w7.cell? ⟨gb198, 0, none⟩ = some (.int .i64 a0_0) := (qAa BK198.out 0).trans rfl; have hcz8_1 : w7.cell? ⟨gb198, 1, none⟩ = some (.bool a0_1) := (qAa BK198.out 1).trans rfl; have hcz8_2 : w7.cell? ⟨gb198, 2, none⟩ = some (.int .i64 a0_2) := (qAa BK198.out 2).trans rfl; have hcz8_3 : w7.cell? ⟨gb198, 3, none⟩ = some (.string a0_3) := (qAa BK198.out 3).trans rfl; have hcz8_4 : w7.cell? ⟨gb198, 4, none⟩ = some (.slice A0_4 l0_4.length c0_4) := (qAa BK198.out 4).trans rfl; have hcz8_5 : w7.cell? ⟨gb198, 5, none⟩ = some (.slice A0_5 l0_5.length c0_5) := (qAa BK198.out 5).trans rfl; have hfz8_0 := qAb BK198.out 0; have hfz8_1 := qAb BK198.out 1; have hfz8_2 := qAb BK198.out 2; have hfz8_3 := qAb BK198.out 3; have hfz8_4 := qAb BK198.out 4; have hfz8_5 := qAb BK198.out 5) | (go_at_call 53; (with_reducible refine (hogsheadref15_may.calls k a0_0 a0_1 a0_2 a0_3 _ _ l0_4 _ _ l0_5 16 t200 _ ?side1 ?side2 ?side3 ?side4 A4.out).mono ?_); (case side1 => repeat (first | exact (Kd.C_below HR0_4.out HB.out) | (with_reducible refine Kd.C_alloc ?_ _) | (with_reducible refine Kd.C_drewN ?_ _) | (with_reducible refine Kd.C_drew ?_))); (case side2 => exact HC0_4.out); (case side3 => repeat (first | exact (Kd.C_below HR0_5.out HB.out) | (with_reducible refine Kd.C_alloc ?_ _) | (with_reducible refine Kd.C_drewN ?_ _) | (with_reducible refine Kd.C_drew ?_))); (case side4 => exact HC0_5.out); rintro e w9 ⟨rfl, hb⟩; have n0_ := Aside0.mk (qAi (g := gb198) (o := .cells #[.int .i64 a0_0, .bool a0_1, .int .i64 a0_2, .string a0_3, .slice A0_4 l0_4.length c0_4, .slice A0_5 l0_5.length c0_5] 25 (0, 0)) (by (with_reducible repeat (first | refine qAg ?_ _ | refine qAh ?_ | refine blk_alloc ?_ _)); exact BK198.out) hb); have n1_ := Aside0.mk (qAj (by repeat (first | (with_reducible first | exact HB.out | apply qAd | apply qAc | apply qAe | refine qAf ?_ GE198.out) | exact HB.out)) hb); clear BK198; clear HB; have BK198 := n0_; have HB := n1_; clear n0_ n1_; (try clear hb); (try clear hb2); (try clear hk); (try clear hi)))
  go_ret
  exact ⟨by first | rfl | (simp [qAn, qAm] <;> rfl) | (simp [*, qAn, qAm] <;> rfl), by repeat (first | (with_reducible first | exact HB.out | apply qAd | apply qAc | apply qAe | refine qAf ?_ GE198.out) | exact HB.out)⟩
 ·rw [if_neg c3] at H
  have c3b0 : decide (t199 ≤ 4000) = false := decide_eq_false c3
  clear c3
  obtain rfl := Option.some.inj H
  go_enter Tryd.func22, Tryd.ntmps22
  go_wp2_with (first | ((with_reducible refine qAv (N := 1) rfl ?_); refine qAu ?hg (N := 1) ?hd (cs := #[.int .i64 a0_0, .bool a0_1, .int .i64 a0_2, .string a0_3, .slice A0_4 l0_4.length c0_4, .slice A0_5 l0_5.length c0_5]) (t := 25) ?hr ?_; (case hd => rfl); (case hg => rfl); (case hr => first | (go_simp; done) | (go_simp; rfl)); intro gb198 hg w10 hbox hb; have n0_ := Aside0.mk (qAj (by repeat (first | (with_reducible first | exact HB.out | apply qAd | apply qAc | apply qAe) | exact HB.out)) hb); have n1_ := Aside0.mk (hbox); have n2_ := Aside0.mk ((by rw [hg]; exact (qAl (by repeat (first | (with_reducible first | exact HB.out | apply qAd | apply qAc | apply qAe) | exact HB.out))) : w.heap.size ≤ gb198)); have n3_ := Aside0.mk ((by rw [hg]; exact (qAl (by repeat (first | (with_reducible first | exact HB.out | apply qAd | apply qAc | apply qAe) | exact HB.out))) : w.heap.size ≤ gb198)); clear HB; have HB := n0_; have BK198 := n1_; have GW198 := n2_; have GE198 := n3_; clear n0_ n1_ n2_ n3_; clear hb hbox hg; have hcz11_0 : w10.cell? ⟨gb198, 0, none⟩ = some (.int .i64 a0_0) := (qAa BK198.out 0).trans rfl; have hcz11_1 : w10.cell? ⟨gb198, 1, none⟩ = some (.bool a0_1) := (qAa BK198.out 1).trans rfl; have hcz11_2 : w10.cell? ⟨gb198, 2, none⟩ = some (.int .i64 a0_2) := (qAa BK198.out 2).trans rfl; have hcz11_3 : w10.cell? ⟨gb198, 3, none⟩ = some (.string a0_3) := (qAa BK198.out 3).trans rfl; have hcz11_4 : w10.cell? ⟨gb198, 4, none⟩ = some (.slice A0_4 l0_4.length c0_4) := (qAa BK198.out 4).trans rfl; have hcz11_5 : w10.cell? ⟨gb198, 5, none⟩ = some (.slice A0_5 l0_5.length c0_5) := (qAa BK198.out 5).trans rfl; have hfz11_0 := qAb BK198.out 0; have hfz11_1 := qAb BK198.out 1; have hfz11_2 := qAb BK198.out 2; have hfz11_3 := qAb BK198.out 3; have hfz11_4 := qAb BK198.out 4; have hfz11_5 := qAb BK198.out 5) | ((with_reducible refine qAp (f := 52) rfl ?_); refine goesL_ (some 4) rfl rfl Tryd.func52 (by kernel_rfl) rfl #[.agg #[.int .i64 a0_0, .bool a0_1, .int .i64 a0_2, .string a0_3, .slice A0_4 l0_4.length c0_4, .slice A0_5 l0_5.length c0_5], .int .i64 20] rfl (by (try simp only [List.map_toArray, List.map_cons, List.map_nil]); first | done | rfl | (simp only [List.length_drop, List.length_take]; rfl)) ?_; (with_reducible refine (hogsheadref15_Count.calls k a0_0 a0_1 a0_2 a0_3 _ _ l0_4 _ _ l0_5 20 t199 _ ?side1 ?side2 ?side3 ?side4 A2.out).mono ?_); (case side1 => repeat (first | exact (Kd.C_below HR0_4.out HB.out) | (with_reducible refine Kd.C_alloc ?_ _) | (with_reducible refine Kd.C_drewN ?_ _) | (with_reducible refine Kd.C_drew ?_))); (case side2 => exact HC0_4.out); (case side3 => repeat (first | exact (Kd.C_below HR0_5.out HB.out) | (with_reducible refine Kd.C_alloc ?_ _) | (with_reducible refine Kd.C_drewN ?_ _) | (with_reducible refine Kd.C_drew ?_))); (case side4 => exact HC0_5.out); rintro e w12 ⟨rfl, hb⟩; refine ⟨_, rfl, ?_⟩; have n0_ := Aside0.mk (qAi (g := gb198) (o := .cells #[.int .i64 a0_0, .bool a0_1, .int .i64 a0_2, .string a0_3, .slice A0_4 l0_4.length c0_4, .slice A0_5 l0_5.length c0_5] 25 (0, 0)) (by (with_reducible repeat (first | refine qAg ?_ _ | refine qAh ?_ | refine blk_alloc ?_ _)); exact BK198.out) hb); have n1_ := Aside0.mk (qAj (by repeat (first | (with_reducible first | exact HB.out | apply qAd | apply qAc | apply qAe | refine qAf ?_ GE198.out) | exact HB.out)) hb); clear BK198; clear HB; have BK198 := n0_; have HB := n1_; clear n0_ n1_; (try clear hb); (try clear hb2); (try clear hk); (try clear hi)))
  go_ret
  exact ⟨by first | rfl | (simp [qAn, qAm] <;> rfl) | (simp [*, qAn, qAm] <;> rfl), by repeat (first | (with_reducible first | exact HB.out | apply qAd | apply qAc | apply qAe | refine qAf ?_ GE198.out) | exact HB.out)⟩
end Go.Proofs.YtbnoihpooeombaaDoor.P

namespace Go.Proofs.YtbnoihpooeombaaDoor.X
open Go.RowKit Go.Proofs.YtbnoihpooeombaaDoorW.PrintWords Go.Proofs.YtbnoihpooeombaaDoorW.PrintLast Go.Proofs.YtbnoihpooeombaaDoorW.PrintMore Go.Proofs.YtbnoihpooeombaaDoor.P
set_option linter.unusedVariables false
set_option linter.unusedSimpArgs false
def okV : Nat → S25 → Prop
  | 0, _ => False
  | d + 1, x => 0 ≤ x.f0 ∧ x.f0 ≤ 5 ∧ -9007199254740992 ≤ x.f2 ∧ x.f2 ≤ 9007199254740992 ∧ x.f3.size ≤ 1000000 ∧ x.f4.length ≤ 100000 ∧ x.f5.length ≤ 100000 ∧ (∀ s ∈ x.f5, s.size ≤ 1000000) ∧ (x.f0 = 5 → x.f5.length = x.f4.length) ∧ ∀ y ∈ x.f4, okV d y
theorem qE9 (f : S25 → List Int) (o : Bool) (l : List S25) (ks : List ByteArray) (i : Nat) (hi : i < l.length) (hk : o = true → i < ks.length) :
    joinC 44 ((qAo f o l ks).take (i + 1)) = (if i = 0 then [] else joinC 44 ((qAo f o l ks).take i) ++ [44]) ++ (if ho : o = true then quoteL (ks[i]'(hk ho)) ++ 58 :: f l[i] else f l[i]) := by
  have hg := qCm f o i l ks hi hk
  have hlt : i < (qAo f o l ks).length := by rw [qBp]; exact hi
  have e : (qAo f o l ks).take (i + 1) = (qAo f o l ks).take i ++ [(qAo f o l ks)[i]] := (List.take_append_getElem hlt).symm
  have e2 : (qAo f o l ks)[i] = (if ho : o = true then quoteL (ks[i]'(hk ho)) ++ 58 :: f l[i] else f l[i]) := by
    rw [List.getElem?_eq_getElem hlt] at hg
    exact Option.some.inj hg
  rw [e, qEn, e2]
  by_cases h0 : i = 0
  · subst h0; simp
  · rw [if_neg h0, if_neg]
    · simp
    · intro h
      have := congrArg List.length h
      rw [List.length_take, List.length_nil, qBp] at this
      omega
theorem infoU8 : (Tryd.prog.info? 5).map (fun i => (i.zero, i.size, i.bytes)) = some (some (.int .u8 0), 1, 1) := by kernel_rfl
def KeepT (w w' : World) : Prop := w.heap.size ≤ w'.heap.size ∧ ∀ (k : Nat) (cs : Array Value) (t : TypeId) (fr : Nat × Nat), w.heap[k]? = some (.cells cs t fr) → t ≠ 5 → w'.heap[k]? = some (.cells cs t fr)
theorem KeepT.refl (w : World) : KeepT w w := ⟨Nat.le_refl _, fun _ _ _ _ h _ => h⟩
theorem KeepT.trans {a b c : World} (h : KeepT a b) (k : KeepT b c) : KeepT a c := ⟨Nat.le_trans h.1 k.1, fun q cs t fr e n => k.2 q cs t fr (h.2 q cs t fr e n) n⟩
theorem KeepT.of_below {w w' : World} (h : Below w.heap.size w w') : KeepT w w' := ⟨h.size, fun _ _ _ _ e _ => qAi e h⟩
theorem KeepT.of_grown {w w' : World} {base n : Nat} {v : Value} {xs : List Value} (h : w.ownsRow base 5 1 v n xs) (hg : w.grownBy w' v.ownBlock) : KeepT w w' :=
  ⟨hg.size, fun k cs t fr e n => qCj e hg (fun hk => by
    obtain ⟨cells, hc⟩ := qC6 h k hk.symm
    rw [e] at hc
    injection hc with hc
    injection hc with _ h2
    exact n h2)⟩
theorem qA2 (s : ByteArray) : qAt (quoteB s) = quoteL s := qCc _ (by
  intro y hy
  unfold quoteL at hy
  rcases List.mem_cons.1 hy with rfl | hy
  · omega
  · rcases List.mem_append.1 hy with hy | hy
    · obtain ⟨b, hb, hq⟩ := List.mem_flatMap.1 hy
      have hr := qBk s b hb
      unfold qI at hq
      split at hq
      · simp only [List.mem_cons, List.not_mem_nil, or_false] at hq
        omega
      · split at hq
        · simp only [List.mem_cons, List.not_mem_nil, or_false] at hq
          omega
        · simp only [List.mem_cons, List.not_mem_nil, or_false] at hq
          unfold hexd at hq
          rcases hq with h | h | h | h | h | h <;> first | omega | (split at h <;> omega)
    · have : y = 34 := by simpa using hy
      omega)
theorem qCb (c : Int) : ∀ (l : List (List Int)) (i : Nat), (joinC c (l.take i)).length ≤ (joinC c l).length
  | [], i => by simp
  | [x], 0 => by simp [joinC]
  | [x], i + 1 => by simp [joinC]
  | x :: y :: l, 0 => by simp [joinC]
  | x :: y :: l, 1 => by simp [joinC]
  | x :: y :: l, i + 2 => by
    have := qCb c (y :: l) (i + 1)
    simp only [List.take_succ_cons, joinC, List.length_append, List.length_cons] at this ⊢
    omega
theorem qEu (l : List S25) (i : Nat) (h : i < l.length) : rd_T25 l (i : Int) = l[i] := by
  simp [rd_T25, List.getD_eq_getElem?_getD, h]
set_option maxHeartbeats 4000000 in
set_option maxRecDepth 100000 in
theorem qIn (d : Nat) (x : S25) (bv : Value) (bl : List Int) (A4 : Option Addr) (c4 : Nat) (A5 : Option Addr) (c5 : Nat) (w0 w : World) (hs : okV (d + 1) x) 
    (h0 : Below w0.heap.size w0 w) (ho : w.ownsRow w0.heap.size 5 1 bv bl.length (nums .u8 bl)) (hl : bl.length + (textI (d + 1) x).length ≤ 140737488355000) (hf : x.f0 = 0) :
    Calls Tryd.prog 48 #[bv, .agg #[.int .i64 x.f0, .bool x.f1, .int .i64 x.f2, .string x.f3, .slice A4 x.f4.length c4, .slice A5 x.f5.length c5]] w fun e w' =>
      ∃ v, e = .returned v ∧ w'.ownsRow w0.heap.size 5 1 v (bl ++ textI (d + 1) x).length (nums .u8 (bl ++ textI (d + 1) x)) ∧ Below w0.heap.size w0 w' ∧ KeepT w w' := by
    obtain ⟨hk0, hk5, hn0, hn1, hs3, hs4, hs5, hsk, hkl, hse⟩ := hs
    have HSE := Aside0.mk hse
    have HSK := Aside0.mk hsk
    rw [hf]
    have hw0 := h0.size
    have HB := Aside0.mk (qAd h0 (.cells #[.int .i64 0, .bool x.f1, .int .i64 x.f2, .string x.f3, .slice A4 x.f4.length c4, .slice A5 x.f5.length c5] 25))
    have HX := Aside0.mk (qA9 w (.cells #[.int .i64 0, .bool x.f1, .int .i64 x.f2, .string x.f3, .slice A4 x.f4.length c4, .slice A5 x.f5.length c5] 25))
    have HO := Aside0.mk (ho.alloc (.cells #[.int .i64 0, .bool x.f1, .int .i64 x.f2, .string x.f3, .slice A4 x.f4.length c4, .slice A5 x.f5.length c5] 25))
    have HK := Aside0.mk (KeepT.of_below (qAd (Below.refl w.heap.size w) (.cells #[.int .i64 0, .bool x.f1, .int .i64 x.f2, .string x.f3, .slice A4 x.f4.length c4, .slice A5 x.f5.length c5] 25)))
    have hsz : (w.alloc (.cells #[.int .i64 0, .bool x.f1, .int .i64 x.f2, .string x.f3, .slice A4 x.f4.length c4, .slice A5 x.f5.length c5] 25)).heap.size = w.heap.size + 1 := by simp [World.alloc, -World.alloc_eq]
    clear hse hsk h0 ho
    have hw0' : w0.heap.size ≤ w.heap.size + 1 := by omega
    have ht : textI (d + 1) x = qAt (⟨#[110, 117, 108, 108]⟩ : ByteArray) := by unfold textI; rw [if_pos hf]; rfl
    rw [ht] at hl ⊢
    go_enter Tryd.func48, Tryd.ntmps48
    go_wp2_with (((with_reducible refine qAs (b := .append) rfl ?_); at_builtin; refine qA8 (w0 := w0) w0.heap.size rfl _ _ 78 9 5 rfl Tryd.underlying78 Tryd.underlying9 infoU8 (bv) (bl) ((⟨#[110, 117, 108, 108]⟩ : ByteArray)) rfl rfl ?aO ?aB ?aS ?aL ?_; (case aO => exact HO.out); (case aB => exact HB.out); (case aS => exact HB.out.size); (case aL => rw [qA1] at hl; omega); intro v1 w1 ho1_ hb1_ hg1_; have HOw1 := Aside0.mk ho1_; have HBw1 := Aside0.mk hb1_; have HKw1 := Aside0.mk (KeepT.trans HK.out (KeepT.of_grown HO.out hg1_)); clear ho1_ hb1_ hg1_))
    go_ret
    exact ⟨v1, rfl, HOw1.out, HBw1.out, HKw1.out⟩
set_option maxHeartbeats 4000000 in
set_option maxRecDepth 100000 in
theorem qIl (d : Nat) (x : S25) (bv : Value) (bl : List Int) (A4 : Option Addr) (c4 : Nat) (A5 : Option Addr) (c5 : Nat) (w0 w : World) (hs : okV (d + 1) x) (hf1 : x.f1 = true)
    (h0 : Below w0.heap.size w0 w) (ho : w.ownsRow w0.heap.size 5 1 bv bl.length (nums .u8 bl)) (hl : bl.length + (textI (d + 1) x).length ≤ 140737488355000) (hf : x.f0 = 1) :
    Calls Tryd.prog 48 #[bv, .agg #[.int .i64 x.f0, .bool x.f1, .int .i64 x.f2, .string x.f3, .slice A4 x.f4.length c4, .slice A5 x.f5.length c5]] w fun e w' =>
      ∃ v, e = .returned v ∧ w'.ownsRow w0.heap.size 5 1 v (bl ++ textI (d + 1) x).length (nums .u8 (bl ++ textI (d + 1) x)) ∧ Below w0.heap.size w0 w' ∧ KeepT w w' := by
    obtain ⟨hk0, hk5, hn0, hn1, hs3, hs4, hs5, hsk, hkl, hse⟩ := hs
    have HSE := Aside0.mk hse
    have HSK := Aside0.mk hsk
    rw [hf]
    have hw0 := h0.size
    have HB := Aside0.mk (qAd h0 (.cells #[.int .i64 1, .bool true, .int .i64 x.f2, .string x.f3, .slice A4 x.f4.length c4, .slice A5 x.f5.length c5] 25))
    have HX := Aside0.mk (qA9 w (.cells #[.int .i64 1, .bool true, .int .i64 x.f2, .string x.f3, .slice A4 x.f4.length c4, .slice A5 x.f5.length c5] 25))
    have HO := Aside0.mk (ho.alloc (.cells #[.int .i64 1, .bool true, .int .i64 x.f2, .string x.f3, .slice A4 x.f4.length c4, .slice A5 x.f5.length c5] 25))
    have HK := Aside0.mk (KeepT.of_below (qAd (Below.refl w.heap.size w) (.cells #[.int .i64 1, .bool true, .int .i64 x.f2, .string x.f3, .slice A4 x.f4.length c4, .slice A5 x.f5.length c5] 25)))
    have hsz : (w.alloc (.cells #[.int .i64 1, .bool true, .int .i64 x.f2, .string x.f3, .slice A4 x.f4.length c4, .slice A5 x.f5.length c5] 25)).heap.size = w.heap.size + 1 := by simp [World.alloc, -World.alloc_eq]
    clear hse hsk h0 ho
    have hw0' : w0.heap.size ≤ w.heap.size + 1 := by omega
    rw [hf1]
    have ht : textI (d + 1) x = qAt (⟨#[116, 114, 117, 101]⟩ : ByteArray) := by unfold textI; rw [if_neg (by omega), if_pos hf, if_pos hf1]; rfl
    rw [ht] at hl ⊢
    go_enter Tryd.func48, Tryd.ntmps48
    go_wp2_with (((with_reducible refine qAs (b := .append) rfl ?_); at_builtin; refine qA8 (w0 := w0) w0.heap.size rfl _ _ 78 9 5 rfl Tryd.underlying78 Tryd.underlying9 infoU8 (bv) (bl) ((⟨#[116, 114, 117, 101]⟩ : ByteArray)) rfl rfl ?aO ?aB ?aS ?aL ?_; (case aO => exact HO.out); (case aB => exact HB.out); (case aS => exact HB.out.size); (case aL => rw [qA1] at hl; omega); intro v1 w1 ho1_ hb1_ hg1_; have HOw1 := Aside0.mk ho1_; have HBw1 := Aside0.mk hb1_; have HKw1 := Aside0.mk (KeepT.trans HK.out (KeepT.of_grown HO.out hg1_)); clear ho1_ hb1_ hg1_))
    go_ret
    exact ⟨v1, rfl, HOw1.out, HBw1.out, HKw1.out⟩
set_option maxHeartbeats 4000000 in
set_option maxRecDepth 100000 in
theorem qHu (d : Nat) (x : S25) (bv : Value) (bl : List Int) (A4 : Option Addr) (c4 : Nat) (A5 : Option Addr) (c5 : Nat) (w0 w : World) (hs : okV (d + 1) x) (hf1 : x.f1 = false)
    (h0 : Below w0.heap.size w0 w) (ho : w.ownsRow w0.heap.size 5 1 bv bl.length (nums .u8 bl)) (hl : bl.length + (textI (d + 1) x).length ≤ 140737488355000) (hf : x.f0 = 1) :
    Calls Tryd.prog 48 #[bv, .agg #[.int .i64 x.f0, .bool x.f1, .int .i64 x.f2, .string x.f3, .slice A4 x.f4.length c4, .slice A5 x.f5.length c5]] w fun e w' =>
      ∃ v, e = .returned v ∧ w'.ownsRow w0.heap.size 5 1 v (bl ++ textI (d + 1) x).length (nums .u8 (bl ++ textI (d + 1) x)) ∧ Below w0.heap.size w0 w' ∧ KeepT w w' := by
    obtain ⟨hk0, hk5, hn0, hn1, hs3, hs4, hs5, hsk, hkl, hse⟩ := hs
    have HSE := Aside0.mk hse
    have HSK := Aside0.mk hsk
    rw [hf]
    have hw0 := h0.size
    have HB := Aside0.mk (qAd h0 (.cells #[.int .i64 1, .bool false, .int .i64 x.f2, .string x.f3, .slice A4 x.f4.length c4, .slice A5 x.f5.length c5] 25))
    have HX := Aside0.mk (qA9 w (.cells #[.int .i64 1, .bool false, .int .i64 x.f2, .string x.f3, .slice A4 x.f4.length c4, .slice A5 x.f5.length c5] 25))
    have HO := Aside0.mk (ho.alloc (.cells #[.int .i64 1, .bool false, .int .i64 x.f2, .string x.f3, .slice A4 x.f4.length c4, .slice A5 x.f5.length c5] 25))
    have HK := Aside0.mk (KeepT.of_below (qAd (Below.refl w.heap.size w) (.cells #[.int .i64 1, .bool false, .int .i64 x.f2, .string x.f3, .slice A4 x.f4.length c4, .slice A5 x.f5.length c5] 25)))
    have hsz : (w.alloc (.cells #[.int .i64 1, .bool false, .int .i64 x.f2, .string x.f3, .slice A4 x.f4.length c4, .slice A5 x.f5.length c5] 25)).heap.size = w.heap.size + 1 := by simp [World.alloc, -World.alloc_eq]
    clear hse hsk h0 ho
    have hw0' : w0.heap.size ≤ w.heap.size + 1 := by omega
    rw [hf1]
    have ht : textI (d + 1) x = qAt (⟨#[102, 97, 108, 115, 101]⟩ : ByteArray) := by unfold textI; rw [if_neg (by omega), if_pos hf, hf1]; rfl
    rw [ht] at hl ⊢
    go_enter Tryd.func48, Tryd.ntmps48
    go_wp2_with (((with_reducible refine qAs (b := .append) rfl ?_); at_builtin; refine qA8 (w0 := w0) w0.heap.size rfl _ _ 78 9 5 rfl Tryd.underlying78 Tryd.underlying9 infoU8 (bv) (bl) ((⟨#[102, 97, 108, 115, 101]⟩ : ByteArray)) rfl rfl ?aO ?aB ?aS ?aL ?_; (case aO => exact HO.out); (case aB => exact HB.out); (case aS => exact HB.out.size); (case aL => rw [qA1] at hl; omega); intro v1 w1 ho1_ hb1_ hg1_; have HOw1 := Aside0.mk ho1_; have HBw1 := Aside0.mk hb1_; have HKw1 := Aside0.mk (KeepT.trans HK.out (KeepT.of_grown HO.out hg1_)); clear ho1_ hb1_ hg1_))
    go_ret
    exact ⟨v1, rfl, HOw1.out, HBw1.out, HKw1.out⟩
set_option maxHeartbeats 4000000 in
set_option maxRecDepth 100000 in
theorem qI7 (d : Nat) (x : S25) (bv : Value) (bl : List Int) (A4 : Option Addr) (c4 : Nat) (A5 : Option Addr) (c5 : Nat) (w0 w : World) (hs : okV (d + 1) x) 
    (h0 : Below w0.heap.size w0 w) (ho : w.ownsRow w0.heap.size 5 1 bv bl.length (nums .u8 bl)) (hl : bl.length + (textI (d + 1) x).length ≤ 140737488355000) (hf : x.f0 = 2) :
    Calls Tryd.prog 48 #[bv, .agg #[.int .i64 x.f0, .bool x.f1, .int .i64 x.f2, .string x.f3, .slice A4 x.f4.length c4, .slice A5 x.f5.length c5]] w fun e w' =>
      ∃ v, e = .returned v ∧ w'.ownsRow w0.heap.size 5 1 v (bl ++ textI (d + 1) x).length (nums .u8 (bl ++ textI (d + 1) x)) ∧ Below w0.heap.size w0 w' ∧ KeepT w w' := by
    obtain ⟨hk0, hk5, hn0, hn1, hs3, hs4, hs5, hsk, hkl, hse⟩ := hs
    have HSE := Aside0.mk hse
    have HSK := Aside0.mk hsk
    rw [hf]
    have hw0 := h0.size
    have HB := Aside0.mk (qAd h0 (.cells #[.int .i64 2, .bool x.f1, .int .i64 x.f2, .string x.f3, .slice A4 x.f4.length c4, .slice A5 x.f5.length c5] 25))
    have HX := Aside0.mk (qA9 w (.cells #[.int .i64 2, .bool x.f1, .int .i64 x.f2, .string x.f3, .slice A4 x.f4.length c4, .slice A5 x.f5.length c5] 25))
    have HO := Aside0.mk (ho.alloc (.cells #[.int .i64 2, .bool x.f1, .int .i64 x.f2, .string x.f3, .slice A4 x.f4.length c4, .slice A5 x.f5.length c5] 25))
    have HK := Aside0.mk (KeepT.of_below (qAd (Below.refl w.heap.size w) (.cells #[.int .i64 2, .bool x.f1, .int .i64 x.f2, .string x.f3, .slice A4 x.f4.length c4, .slice A5 x.f5.length c5] 25)))
    have hsz : (w.alloc (.cells #[.int .i64 2, .bool x.f1, .int .i64 x.f2, .string x.f3, .slice A4 x.f4.length c4, .slice A5 x.f5.length c5] 25)).heap.size = w.heap.size + 1 := by simp [World.alloc, -World.alloc_eq]
    clear hse hsk h0 ho
    have hw0' : w0.heap.size ≤ w.heap.size + 1 := by omega
    have ht : textI (d + 1) x = qAt (itoaB x.f2) := by unfold textI; rw [if_neg (by omega), if_neg (by omega), if_pos hf]
    rw [ht] at hl ⊢
    obtain ⟨K, hK⟩ := qG2 x.f2 hn0 hn1
    go_enter Tryd.func48, Tryd.ntmps48
    go_wp2_with fail
    refine (hogsheadref15_decimal.calls K x.f2 (itoaB x.f2) _ (hK K (Nat.le_refl _))).mono ?_
    rintro e w2 ⟨rfl, hb2_⟩
    have hb2 : Below (w.alloc (.cells #[.int .i64 2, .bool x.f1, .int .i64 x.f2, .string x.f3, .slice A4 x.f4.length c4, .slice A5 x.f5.length c5] 25)).heap.size (w.alloc (.cells #[.int .i64 2, .bool x.f1, .int .i64 x.f2, .string x.f3, .slice A4 x.f4.length c4, .slice A5 x.f5.length c5] 25)) w2 := hb2_.below
    have HB2 := Aside0.mk (qB6 HB.out (by rw [hsz]; omega) hb2)
    have HK2 := Aside0.mk (KeepT.trans HK.out (KeepT.of_below hb2))
    have HO2 := Aside0.mk (qBi HO.out hb2)
    clear hb2 hb2_ HB HK HO
    go_wp2_with (((with_reducible refine qAs (b := .append) rfl ?_); at_builtin; refine qA8 (w0 := w0) w0.heap.size rfl _ _ 78 9 5 rfl Tryd.underlying78 Tryd.underlying9 infoU8 (bv) (bl) ((itoaB x.f2)) rfl rfl ?aO ?aB ?aS ?aL ?_; (case aO => exact HO2.out); (case aB => exact HB2.out); (case aS => exact HB2.out.size); (case aL => rw [qA1] at hl; omega); intro v1 w1 ho1_ hb1_ hg1_; have HOw1 := Aside0.mk ho1_; have HBw1 := Aside0.mk hb1_; have HKw1 := Aside0.mk (KeepT.trans HK2.out (KeepT.of_grown HO2.out hg1_)); clear ho1_ hb1_ hg1_))
    go_ret
    exact ⟨v1, rfl, HOw1.out, HBw1.out, HKw1.out⟩
set_option maxHeartbeats 4000000 in
set_option maxRecDepth 100000 in
theorem qIm (d : Nat) (x : S25) (bv : Value) (bl : List Int) (A4 : Option Addr) (c4 : Nat) (A5 : Option Addr) (c5 : Nat) (w0 w : World) (hs : okV (d + 1) x) 
    (h0 : Below w0.heap.size w0 w) (ho : w.ownsRow w0.heap.size 5 1 bv bl.length (nums .u8 bl)) (hl : bl.length + (textI (d + 1) x).length ≤ 140737488355000) (hf : x.f0 = 3) :
    Calls Tryd.prog 48 #[bv, .agg #[.int .i64 x.f0, .bool x.f1, .int .i64 x.f2, .string x.f3, .slice A4 x.f4.length c4, .slice A5 x.f5.length c5]] w fun e w' =>
      ∃ v, e = .returned v ∧ w'.ownsRow w0.heap.size 5 1 v (bl ++ textI (d + 1) x).length (nums .u8 (bl ++ textI (d + 1) x)) ∧ Below w0.heap.size w0 w' ∧ KeepT w w' := by
    obtain ⟨hk0, hk5, hn0, hn1, hs3, hs4, hs5, hsk, hkl, hse⟩ := hs
    have HSE := Aside0.mk hse
    have HSK := Aside0.mk hsk
    rw [hf]
    have hw0 := h0.size
    have HB := Aside0.mk (qAd h0 (.cells #[.int .i64 3, .bool x.f1, .int .i64 x.f2, .string x.f3, .slice A4 x.f4.length c4, .slice A5 x.f5.length c5] 25))
    have HX := Aside0.mk (qA9 w (.cells #[.int .i64 3, .bool x.f1, .int .i64 x.f2, .string x.f3, .slice A4 x.f4.length c4, .slice A5 x.f5.length c5] 25))
    have HO := Aside0.mk (ho.alloc (.cells #[.int .i64 3, .bool x.f1, .int .i64 x.f2, .string x.f3, .slice A4 x.f4.length c4, .slice A5 x.f5.length c5] 25))
    have HK := Aside0.mk (KeepT.of_below (qAd (Below.refl w.heap.size w) (.cells #[.int .i64 3, .bool x.f1, .int .i64 x.f2, .string x.f3, .slice A4 x.f4.length c4, .slice A5 x.f5.length c5] 25)))
    have hsz : (w.alloc (.cells #[.int .i64 3, .bool x.f1, .int .i64 x.f2, .string x.f3, .slice A4 x.f4.length c4, .slice A5 x.f5.length c5] 25)).heap.size = w.heap.size + 1 := by simp [World.alloc, -World.alloc_eq]
    clear hse hsk h0 ho
    have hw0' : w0.heap.size ≤ w.heap.size + 1 := by omega
    have ht : textI (d + 1) x = qAt (quoteB x.f3) := by unfold textI; rw [if_neg (by omega), if_neg (by omega), if_neg (by omega), if_pos hf, qA2]
    rw [ht] at hl ⊢
    obtain ⟨K, hK⟩ := qB9 x.f3 (by omega)
    go_enter Tryd.func48, Tryd.ntmps48
    go_wp2_with fail
    refine (hogsheadref15_Quote.calls K x.f3 (quoteB x.f3) _ (hK K (Nat.le_refl _))).mono ?_
    rintro e w2 ⟨rfl, hb2_⟩
    have hb2 : Below (w.alloc (.cells #[.int .i64 3, .bool x.f1, .int .i64 x.f2, .string x.f3, .slice A4 x.f4.length c4, .slice A5 x.f5.length c5] 25)).heap.size (w.alloc (.cells #[.int .i64 3, .bool x.f1, .int .i64 x.f2, .string x.f3, .slice A4 x.f4.length c4, .slice A5 x.f5.length c5] 25)) w2 := hb2_
    have HB2 := Aside0.mk (qB6 HB.out (by rw [hsz]; omega) hb2)
    have HK2 := Aside0.mk (KeepT.trans HK.out (KeepT.of_below hb2))
    have HO2 := Aside0.mk (qBi HO.out hb2)
    clear hb2 hb2_ HB HK HO
    go_wp2_with (((with_reducible refine qAs (b := .append) rfl ?_); at_builtin; refine qA8 (w0 := w0) w0.heap.size rfl _ _ 78 9 5 rfl Tryd.underlying78 Tryd.underlying9 infoU8 (bv) (bl) ((quoteB x.f3)) rfl rfl ?aO ?aB ?aS ?aL ?_; (case aO => exact HO2.out); (case aB => exact HB2.out); (case aS => exact HB2.out.size); (case aL => rw [qA1] at hl; omega); intro v1 w1 ho1_ hb1_ hg1_; have HOw1 := Aside0.mk ho1_; have HBw1 := Aside0.mk hb1_; have HKw1 := Aside0.mk (KeepT.trans HK2.out (KeepT.of_grown HO2.out hg1_)); clear ho1_ hb1_ hg1_))
    go_ret
    exact ⟨v1, rfl, HOw1.out, HBw1.out, HKw1.out⟩
set_option maxHeartbeats 4000000 in
set_option maxRecDepth 100000 in
theorem qIo (d : Nat) (x : S25) (bv : Value) (bl : List Int) (A4 : Option Addr) (c4 : Nat) (A5 : Option Addr) (c5 : Nat) (w0 w : World) (hs : okV (d + 1) x) (ih : ∀ (x : S25) (bv : Value) (bl : List Int) (A4 : Option Addr) (c4 : Nat) (A5 : Option Addr) (c5 : Nat) (w0 w : World) (hs : okV d x) (hr4 : k25.C w0 A4 x.f4.length x.f4) (hc4 : x.f4.length ≤ c4) (hr5 : Kd.string.C w0 A5 x.f5.length x.f5) (hc5 : x.f5.length ≤ c5) (h0 : Below w0.heap.size w0 w) (ho : w.ownsRow w0.heap.size 5 1 bv bl.length (nums .u8 bl)) (hl : bl.length + (textI d x).length ≤ 140737488355000), Calls Tryd.prog 48 #[bv, .agg #[.int .i64 x.f0, .bool x.f1, .int .i64 x.f2, .string x.f3, .slice A4 x.f4.length c4, .slice A5 x.f5.length c5]] w fun e w' => ∃ v, e = .returned v ∧ w'.ownsRow w0.heap.size 5 1 v (bl ++ textI d x).length (nums .u8 (bl ++ textI d x)) ∧ Below w0.heap.size w0 w' ∧ KeepT w w') (hr4 : k25.C w0 A4 x.f4.length x.f4) (hc4 : x.f4.length ≤ c4) (hr5 : Kd.string.C w0 A5 x.f5.length x.f5) (hc5 : x.f5.length ≤ c5)
    (h0 : Below w0.heap.size w0 w) (ho : w.ownsRow w0.heap.size 5 1 bv bl.length (nums .u8 bl)) (hl : bl.length + (textI (d + 1) x).length ≤ 140737488355000) (hf : x.f0 = 4) :
    Calls Tryd.prog 48 #[bv, .agg #[.int .i64 x.f0, .bool x.f1, .int .i64 x.f2, .string x.f3, .slice A4 x.f4.length c4, .slice A5 x.f5.length c5]] w fun e w' =>
      ∃ v, e = .returned v ∧ w'.ownsRow w0.heap.size 5 1 v (bl ++ textI (d + 1) x).length (nums .u8 (bl ++ textI (d + 1) x)) ∧ Below w0.heap.size w0 w' ∧ KeepT w w' := by
    obtain ⟨hk0, hk5, hn0, hn1, hs3, hs4, hs5, hsk, hkl, hse⟩ := hs
    have HSE := Aside0.mk hse
    have HSK := Aside0.mk hsk
    rw [hf]
    have hw0 := h0.size
    have HB := Aside0.mk (qAd h0 (.cells #[.int .i64 4, .bool x.f1, .int .i64 x.f2, .string x.f3, .slice A4 x.f4.length c4, .slice A5 x.f5.length c5] 25))
    have HX := Aside0.mk (qA9 w (.cells #[.int .i64 4, .bool x.f1, .int .i64 x.f2, .string x.f3, .slice A4 x.f4.length c4, .slice A5 x.f5.length c5] 25))
    have HO := Aside0.mk (ho.alloc (.cells #[.int .i64 4, .bool x.f1, .int .i64 x.f2, .string x.f3, .slice A4 x.f4.length c4, .slice A5 x.f5.length c5] 25))
    have HK := Aside0.mk (KeepT.of_below (qAd (Below.refl w.heap.size w) (.cells #[.int .i64 4, .bool x.f1, .int .i64 x.f2, .string x.f3, .slice A4 x.f4.length c4, .slice A5 x.f5.length c5] 25)))
    have hsz : (w.alloc (.cells #[.int .i64 4, .bool x.f1, .int .i64 x.f2, .string x.f3, .slice A4 x.f4.length c4, .slice A5 x.f5.length c5] 25)).heap.size = w.heap.size + 1 := by simp [World.alloc, -World.alloc_eq]
    clear hse hsk h0 ho
    have hw0' : w0.heap.size ≤ w.heap.size + 1 := by omega
    have ht : textI (d + 1) x = 91 :: (joinC 44 (qAo (textI d) false x.f4 x.f5) ++ [93]) := by unfold textI; rw [if_neg (by omega), if_neg (by omega), if_neg (by omega), if_neg (by omega), if_neg (by omega)]
    rw [ht] at hl ⊢
    simp only [List.length_cons, List.length_append, List.length_nil] at hl
    have HR4 := Aside0.mk hr4
    have HR5 := Aside0.mk hr5
    clear hr4 hr5
    have hJ : ∀ i, i ≤ x.f4.length → (joinC 44 ((qAo (textI d) false x.f4 x.f5).take i)).length ≤ (joinC 44 (qAo (textI d) false x.f4 x.f5)).length := fun i _ => qCb 44 _ i
    skip
    have HK0 := Aside0.mk (KeepT.refl (w.alloc (.cells #[.int .i64 4, .bool x.f1, .int .i64 x.f2, .string x.f3, .slice A4 x.f4.length c4, .slice A5 x.f5.length c5] 25)))
    go_enter Tryd.func48, Tryd.ntmps48
    go_wp2_with (((with_reducible refine qAs (b := .append) rfl ?_); at_builtin; go_must (refine qA7 (w0 := w0) w0.heap.size rfl _ _ 78 5 .u8 1 rfl Tryd.underlying78 infoU8 (by decide) (bv) (bl) (91) rfl (by first | rfl | (rw [hsz]; rfl)) ?aO ?aB ?aS ?aL ?_; (case aO => exact HO.out); (case aB => exact HB.out); (case aS => exact HB.out.size); (case aL => (try rw [Nat.mul_one]); (try simp only [List.length_append, List.length_cons, List.length_nil]); omega); intro v1 w1 ho1_ hb1_ hg1_ hat_; have HOw1 := Aside0.mk ho1_; have HBw1 := Aside0.mk hb1_; have HKw1 := Aside0.mk (KeepT.trans HK0.out (KeepT.of_grown HO.out hg1_)); clear ho1_ hb1_ hg1_ hat_)))
    have HX1 := Aside0.mk (HKw1.out.2 _ _ _ _ HX.out (by decide))
    have hw1 : w.heap.size + 1 ≤ w1.heap.size := by have := HKw1.out.1; omega
    clear HO HB HX HK0 hsz
    go_loopw [0, 7] (fun vc_ vi wr => ∃ (i : Nat) (vb : Value), vc_ = vb ∧ vi = .int .i64 i ∧ i ≤ x.f4.length ∧ Aside0 (wr.ownsRow w0.heap.size 5 1 vb (bl ++ 91 :: joinC 44 ((qAo (textI d) false x.f4 x.f5).take i)).length (nums .u8 (bl ++ 91 :: joinC 44 ((qAo (textI d) false x.f4 x.f5).take i)))) ∧ Aside0 (Below w0.heap.size w0 wr) ∧ Aside0 (KeepT w wr) ∧ Aside0 (wr.heap[w.heap.size]? = some (.cells #[.int .i64 4, .bool x.f1, .int .i64 x.f2, .string x.f3, .slice A4 x.f4.length c4, .slice A5 x.f5.length c5] 25 (0, 0)))) (fun _ vi _ => x.f4.length - (intOf vi).toNat)
    case atStart => exact ⟨0, v1, rfl, rfl, by omega, ⟨by simpa [joinC] using HOw1.out⟩, HBw1, ⟨KeepT.trans HK.out HKw1.out⟩, HX1⟩
    case round =>
      clear HOw1 HBw1 HKw1 HX1 HK
      obtain ⟨i, vb, hvb, rfl, hi, HOr, HBr, HKw, HXr⟩ := hrel
      replace hvb := hvb.symm
      subst hvb
      have HKr := Aside0.mk (KeepT.refl wr)
      have hJi := hJ i hi
      by_cases hlt : i < x.f4.length
      · have hJ1 := hJ (i + 1) hlt
        have hst := qE9 (textI d) false x.f4 x.f5 i hlt (by intro h; cases h)
        by_cases hz : i = 0
        · skip
          obtain ⟨ad, B4, b4, B5, b5, rfl, z0, z1, z2, z3, z4, z5, l4, g4, l5, g5⟩ := at_T25 HR4.out (i : Int) (by omega) (by omega)
          simp only [qEu x.f4 i hlt, Int.toNat_natCast] at z0 z1 z2 z3 z4 z5 l4 g4 l5 g5
          have HYE := Aside0.mk (HSE.out _ (List.getElem_mem hlt))
          obtain ⟨y, hy⟩ : ∃ y, x.f4[i] = y := ⟨_, rfl⟩
          rw [hy] at HYE hst z0 z1 z2 z3 z4 z5 l4 g4 l5 g5
          have G4 := Aside0.mk g4
          have G5 := Aside0.mk g5
          have Z0 := Aside0.mk z0
          have Z1 := Aside0.mk z1
          have Z2 := Aside0.mk z2
          have Z3 := Aside0.mk z3
          have Z4 := Aside0.mk z4
          have Z5 := Aside0.mk z5
          clear hy g4 g5 z0 z1 z2 z3 z4 z5
          rw [if_pos hz, List.nil_append] at hst
          rw [dif_neg (by decide)] at hst
          have hLn := congrArg List.length hst
          try simp only [List.length_append, List.length_cons, List.length_nil] at hLn
          have hi0 : (decide ((0 : Int) < (i : Int))) = false := decide_eq_false (by omega)
          have hi1 : ¬ ((0 : Int) < (i : Int)) := by omega
          have HE := Aside0.mk (show (bl ++ 91 :: joinC 44 ((qAo (textI d) false x.f4 x.f5).take i)) ++ textI d y = bl ++ 91 :: joinC 44 ((qAo (textI d) false x.f4 x.f5).take (i + 1)) by rw [hst]; simp [joinC, hz])
          have hLE : (bl ++ 91 :: joinC 44 ((qAo (textI d) false x.f4 x.f5).take i)).length + (textI d y).length ≤ 140737488355000 := by
            have h_ := congrArg List.length HE.out
            simp only [List.length_append, List.length_cons, List.length_nil] at h_ ⊢
            omega
          have hLF := hLE
          try simp only [qA2, List.length_append, List.length_cons, List.length_nil] at hLF
          clear hst hz
          obtain ⟨x0, x1, x2, x3, x4, x5⟩ := qAq HXr.out
          have z0 := qAk HBr.out Z0.out
          have z1 := qAk HBr.out Z1.out
          have z2 := qAk HBr.out Z2.out
          have z3 := qAk HBr.out Z3.out
          have z4 := qAk HBr.out Z4.out
          have z5 := qAk HBr.out Z5.out
          go_wp2_with fail
          refine (ih y vb (bl ++ 91 :: joinC 44 ((qAo (textI d) false x.f4 x.f5).take i)) B4 b4 B5 b5 w0 _ HYE.out G4.out l4 G5.out l5 HBr.out HOr.out hLE).mono ?_
          rintro e w5 ⟨v5, rfl, ho5, hb5, hk5⟩
          rw [HE.out] at ho5
          have HO5 := Aside0.mk ho5
          have HB5 := Aside0.mk hb5
          have HK5_ := Aside0.mk (KeepT.trans HKr.out hk5)
          have HX5 := Aside0.mk (HK5_.out.2 _ _ _ _ HXr.out (by decide))
          clear ho5 hb5 hk5 x0 x1 x2 x3 x4 x5 z0 z1 z2 z3 z4 z5
          go_wp2_with fail
          go_roundw
          case rel => exact ⟨i + 1, v5, rfl, by go_num, by omega, HO5, HB5, ⟨KeepT.trans HKw.out HK5_.out⟩, HX5⟩
          case measure => simp [intOf]; omega
        · skip
          obtain ⟨ad, B4, b4, B5, b5, rfl, z0, z1, z2, z3, z4, z5, l4, g4, l5, g5⟩ := at_T25 HR4.out (i : Int) (by omega) (by omega)
          simp only [qEu x.f4 i hlt, Int.toNat_natCast] at z0 z1 z2 z3 z4 z5 l4 g4 l5 g5
          have HYE := Aside0.mk (HSE.out _ (List.getElem_mem hlt))
          obtain ⟨y, hy⟩ : ∃ y, x.f4[i] = y := ⟨_, rfl⟩
          rw [hy] at HYE hst z0 z1 z2 z3 z4 z5 l4 g4 l5 g5
          have G4 := Aside0.mk g4
          have G5 := Aside0.mk g5
          have Z0 := Aside0.mk z0
          have Z1 := Aside0.mk z1
          have Z2 := Aside0.mk z2
          have Z3 := Aside0.mk z3
          have Z4 := Aside0.mk z4
          have Z5 := Aside0.mk z5
          clear hy g4 g5 z0 z1 z2 z3 z4 z5
          rw [if_neg hz] at hst
          rw [dif_neg (by decide)] at hst
          have hLn := congrArg List.length hst
          try simp only [List.length_append, List.length_cons, List.length_nil] at hLn
          have hi0 : (decide ((0 : Int) < (i : Int))) = true := decide_eq_true (by omega)
          have hi1 : (0 : Int) < (i : Int) := by omega
          have HE := Aside0.mk (show ((bl ++ 91 :: joinC 44 ((qAo (textI d) false x.f4 x.f5).take i)) ++ [44]) ++ textI d y = bl ++ 91 :: joinC 44 ((qAo (textI d) false x.f4 x.f5).take (i + 1)) by rw [hst]; simp [joinC])
          have hLE : ((bl ++ 91 :: joinC 44 ((qAo (textI d) false x.f4 x.f5).take i)) ++ [44]).length + (textI d y).length ≤ 140737488355000 := by
            have h_ := congrArg List.length HE.out
            simp only [List.length_append, List.length_cons, List.length_nil] at h_ ⊢
            omega
          have hLF := hLE
          try simp only [qA2, List.length_append, List.length_cons, List.length_nil] at hLF
          clear hst hz
          obtain ⟨x0, x1, x2, x3, x4, x5⟩ := qAq HXr.out
          have z0 := qAk HBr.out Z0.out
          have z1 := qAk HBr.out Z1.out
          have z2 := qAk HBr.out Z2.out
          have z3 := qAk HBr.out Z3.out
          have z4 := qAk HBr.out Z4.out
          have z5 := qAk HBr.out Z5.out
          go_wp2_with (((with_reducible refine qAs (b := .append) rfl ?_); at_builtin; go_must (refine qA7 (w0 := w0) w0.heap.size rfl _ _ 78 5 .u8 1 rfl Tryd.underlying78 infoU8 (by decide) (vb) ((bl ++ 91 :: joinC 44 ((qAo (textI d) false x.f4 x.f5).take i))) (44) rfl (by first | rfl | (rw [hsz]; rfl)) ?aO ?aB ?aS ?aL ?_; (case aO => exact HOr.out); (case aB => exact HBr.out); (case aS => exact HBr.out.size); (case aL => (try rw [Nat.mul_one]); (try simp only [List.length_append, List.length_cons, List.length_nil]); omega); intro va wa ho1_ hb1_ hg1_ hat_; have HOwa := Aside0.mk ho1_; have HBwa := Aside0.mk hb1_; have HKwa := Aside0.mk (KeepT.trans HKr.out (KeepT.of_grown HOr.out hg1_)); clear ho1_ hb1_ hg1_ hat_; clear x0 x1 x2 x3 x4 x5; clear z0 z1 z2 z3 z4 z5; have HXwa := Aside0.mk (HKwa.out.2 _ _ _ _ HXr.out (by decide)); obtain ⟨x0, x1, x2, x3, x4, x5⟩ := qAq HXwa.out; clear HXwa; have z0 := qAk HBwa.out Z0.out; have z1 := qAk HBwa.out Z1.out; have z2 := qAk HBwa.out Z2.out; have z3 := qAk HBwa.out Z3.out; have z4 := qAk HBwa.out Z4.out; have z5 := qAk HBwa.out Z5.out)))
          refine (ih y va ((bl ++ 91 :: joinC 44 ((qAo (textI d) false x.f4 x.f5).take i)) ++ [44]) B4 b4 B5 b5 w0 _ HYE.out G4.out l4 G5.out l5 HBwa.out HOwa.out hLE).mono ?_
          rintro e w5 ⟨v5, rfl, ho5, hb5, hk5⟩
          rw [HE.out] at ho5
          have HO5 := Aside0.mk ho5
          have HB5 := Aside0.mk hb5
          have HK5_ := Aside0.mk (KeepT.trans HKwa.out hk5)
          have HX5 := Aside0.mk (HK5_.out.2 _ _ _ _ HXr.out (by decide))
          clear ho5 hb5 hk5 x0 x1 x2 x3 x4 x5 z0 z1 z2 z3 z4 z5
          go_wp2_with fail
          go_roundw
          case rel => exact ⟨i + 1, v5, rfl, by go_num, by omega, HO5, HB5, ⟨KeepT.trans HKw.out HK5_.out⟩, HX5⟩
          case measure => simp [intOf]; omega
      · have hie : i = x.f4.length := by omega
        have hpt : (qAo (textI d) false x.f4 x.f5).take i = (qAo (textI d) false x.f4 x.f5) := List.take_of_length_le (by rw [qBp]; omega)
        rw [hpt] at HOr
        obtain ⟨x0, x1, x2, x3, x4, x5⟩ := qAq HXr.out
        go_wp2_with (((with_reducible refine qAs (b := .append) rfl ?_); at_builtin; go_must (refine qA7 (w0 := w0) w0.heap.size rfl _ _ 78 5 .u8 1 rfl Tryd.underlying78 infoU8 (by decide) (vb) ((bl ++ 91 :: joinC 44 (qAo (textI d) false x.f4 x.f5))) (93) rfl (by first | rfl | (rw [hsz]; rfl)) ?aO ?aB ?aS ?aL ?_; (case aO => exact HOr.out); (case aB => exact HBr.out); (case aS => exact HBr.out.size); (case aL => (try rw [Nat.mul_one]); (try simp only [List.length_append, List.length_cons, List.length_nil]); omega); intro vz wz ho1_ hb1_ hg1_ hat_; have HOwz := Aside0.mk ho1_; have HBwz := Aside0.mk hb1_; have HKwz := Aside0.mk (KeepT.trans HKr.out (KeepT.of_grown HOr.out hg1_)); clear ho1_ hb1_ hg1_ hat_)))
        have hE : (bl ++ 91 :: joinC 44 (qAo (textI d) false x.f4 x.f5)) ++ [93] = bl ++ 91 :: (joinC 44 (qAo (textI d) false x.f4 x.f5) ++ [93]) := by simp
        rw [hE] at HOwz
        go_ret
        exact ⟨vz, rfl, HOwz.out, HBwz.out, ⟨by have := KeepT.trans HKw.out HKwz.out; exact this.1, (KeepT.trans HKw.out HKwz.out).2⟩⟩
set_option maxHeartbeats 4000000 in
set_option maxRecDepth 100000 in
theorem qGy (d : Nat) (x : S25) (bv : Value) (bl : List Int) (A4 : Option Addr) (c4 : Nat) (A5 : Option Addr) (c5 : Nat) (w0 w : World) (hs : okV (d + 1) x) (ih : ∀ (x : S25) (bv : Value) (bl : List Int) (A4 : Option Addr) (c4 : Nat) (A5 : Option Addr) (c5 : Nat) (w0 w : World) (hs : okV d x) (hr4 : k25.C w0 A4 x.f4.length x.f4) (hc4 : x.f4.length ≤ c4) (hr5 : Kd.string.C w0 A5 x.f5.length x.f5) (hc5 : x.f5.length ≤ c5) (h0 : Below w0.heap.size w0 w) (ho : w.ownsRow w0.heap.size 5 1 bv bl.length (nums .u8 bl)) (hl : bl.length + (textI d x).length ≤ 140737488355000), Calls Tryd.prog 48 #[bv, .agg #[.int .i64 x.f0, .bool x.f1, .int .i64 x.f2, .string x.f3, .slice A4 x.f4.length c4, .slice A5 x.f5.length c5]] w fun e w' => ∃ v, e = .returned v ∧ w'.ownsRow w0.heap.size 5 1 v (bl ++ textI d x).length (nums .u8 (bl ++ textI d x)) ∧ Below w0.heap.size w0 w' ∧ KeepT w w') (hr4 : k25.C w0 A4 x.f4.length x.f4) (hc4 : x.f4.length ≤ c4) (hr5 : Kd.string.C w0 A5 x.f5.length x.f5) (hc5 : x.f5.length ≤ c5)
    (h0 : Below w0.heap.size w0 w) (ho : w.ownsRow w0.heap.size 5 1 bv bl.length (nums .u8 bl)) (hl : bl.length + (textI (d + 1) x).length ≤ 140737488355000) (hf : x.f0 = 5) :
    Calls Tryd.prog 48 #[bv, .agg #[.int .i64 x.f0, .bool x.f1, .int .i64 x.f2, .string x.f3, .slice A4 x.f4.length c4, .slice A5 x.f5.length c5]] w fun e w' =>
      ∃ v, e = .returned v ∧ w'.ownsRow w0.heap.size 5 1 v (bl ++ textI (d + 1) x).length (nums .u8 (bl ++ textI (d + 1) x)) ∧ Below w0.heap.size w0 w' ∧ KeepT w w' := by
    obtain ⟨hk0, hk5, hn0, hn1, hs3, hs4, hs5, hsk, hkl, hse⟩ := hs
    have HSE := Aside0.mk hse
    have HSK := Aside0.mk hsk
    rw [hf]
    have hw0 := h0.size
    have HB := Aside0.mk (qAd h0 (.cells #[.int .i64 5, .bool x.f1, .int .i64 x.f2, .string x.f3, .slice A4 x.f4.length c4, .slice A5 x.f5.length c5] 25))
    have HX := Aside0.mk (qA9 w (.cells #[.int .i64 5, .bool x.f1, .int .i64 x.f2, .string x.f3, .slice A4 x.f4.length c4, .slice A5 x.f5.length c5] 25))
    have HO := Aside0.mk (ho.alloc (.cells #[.int .i64 5, .bool x.f1, .int .i64 x.f2, .string x.f3, .slice A4 x.f4.length c4, .slice A5 x.f5.length c5] 25))
    have HK := Aside0.mk (KeepT.of_below (qAd (Below.refl w.heap.size w) (.cells #[.int .i64 5, .bool x.f1, .int .i64 x.f2, .string x.f3, .slice A4 x.f4.length c4, .slice A5 x.f5.length c5] 25)))
    have hsz : (w.alloc (.cells #[.int .i64 5, .bool x.f1, .int .i64 x.f2, .string x.f3, .slice A4 x.f4.length c4, .slice A5 x.f5.length c5] 25)).heap.size = w.heap.size + 1 := by simp [World.alloc, -World.alloc_eq]
    clear hse hsk h0 ho
    have hw0' : w0.heap.size ≤ w.heap.size + 1 := by omega
    have ht : textI (d + 1) x = 123 :: (joinC 44 (qAo (textI d) true x.f4 x.f5) ++ [125]) := by unfold textI; rw [if_neg (by omega), if_neg (by omega), if_neg (by omega), if_neg (by omega), if_pos hf]
    rw [ht] at hl ⊢
    simp only [List.length_cons, List.length_append, List.length_nil] at hl
    have HR4 := Aside0.mk hr4
    have HR5 := Aside0.mk hr5
    clear hr4 hr5
    have hJ : ∀ i, i ≤ x.f4.length → (joinC 44 ((qAo (textI d) true x.f4 x.f5).take i)).length ≤ (joinC 44 (qAo (textI d) true x.f4 x.f5)).length := fun i _ => qCb 44 _ i
    have hlen5 := Aside0.mk (hkl hf)
    clear hkl
    have HK0 := Aside0.mk (KeepT.refl (w.alloc (.cells #[.int .i64 5, .bool x.f1, .int .i64 x.f2, .string x.f3, .slice A4 x.f4.length c4, .slice A5 x.f5.length c5] 25)))
    go_enter Tryd.func48, Tryd.ntmps48
    go_wp2_with (((with_reducible refine qAs (b := .append) rfl ?_); at_builtin; go_must (refine qA7 (w0 := w0) w0.heap.size rfl _ _ 78 5 .u8 1 rfl Tryd.underlying78 infoU8 (by decide) (bv) (bl) (123) rfl (by first | rfl | (rw [hsz]; rfl)) ?aO ?aB ?aS ?aL ?_; (case aO => exact HO.out); (case aB => exact HB.out); (case aS => exact HB.out.size); (case aL => (try rw [Nat.mul_one]); (try simp only [List.length_append, List.length_cons, List.length_nil]); omega); intro v1 w1 ho1_ hb1_ hg1_ hat_; have HOw1 := Aside0.mk ho1_; have HBw1 := Aside0.mk hb1_; have HKw1 := Aside0.mk (KeepT.trans HK0.out (KeepT.of_grown HO.out hg1_)); clear ho1_ hb1_ hg1_ hat_)))
    have HX1 := Aside0.mk (HKw1.out.2 _ _ _ _ HX.out (by decide))
    have hw1 : w.heap.size + 1 ≤ w1.heap.size := by have := HKw1.out.1; omega
    clear HO HB HX HK0 hsz
    go_loopw [0, 7] (fun vc_ vi wr => ∃ (i : Nat) (vb : Value), vc_ = vb ∧ vi = .int .i64 i ∧ i ≤ x.f4.length ∧ Aside0 (wr.ownsRow w0.heap.size 5 1 vb (bl ++ 123 :: joinC 44 ((qAo (textI d) true x.f4 x.f5).take i)).length (nums .u8 (bl ++ 123 :: joinC 44 ((qAo (textI d) true x.f4 x.f5).take i)))) ∧ Aside0 (Below w0.heap.size w0 wr) ∧ Aside0 (KeepT w wr) ∧ Aside0 (wr.heap[w.heap.size]? = some (.cells #[.int .i64 5, .bool x.f1, .int .i64 x.f2, .string x.f3, .slice A4 x.f4.length c4, .slice A5 x.f5.length c5] 25 (0, 0)))) (fun _ vi _ => x.f4.length - (intOf vi).toNat)
    case atStart => exact ⟨0, v1, rfl, rfl, by omega, ⟨by simpa [joinC] using HOw1.out⟩, HBw1, ⟨KeepT.trans HK.out HKw1.out⟩, HX1⟩
    case round =>
      clear HOw1 HBw1 HKw1 HX1 HK
      obtain ⟨i, vb, hvb, rfl, hi, HOr, HBr, HKw, HXr⟩ := hrel
      replace hvb := hvb.symm
      subst hvb
      have HKr := Aside0.mk (KeepT.refl wr)
      have hJi := hJ i hi
      by_cases hlt : i < x.f4.length
      · have hJ1 := hJ (i + 1) hlt
        have hst := qE9 (textI d) true x.f4 x.f5 i hlt (by intro _; have := hlen5.out; omega)
        by_cases hz : i = 0
        · skip
          obtain ⟨ad, B4, b4, B5, b5, rfl, z0, z1, z2, z3, z4, z5, l4, g4, l5, g5⟩ := at_T25 HR4.out (i : Int) (by omega) (by omega)
          simp only [qEu x.f4 i hlt, Int.toNat_natCast] at z0 z1 z2 z3 z4 z5 l4 g4 l5 g5
          have HYE := Aside0.mk (HSE.out _ (List.getElem_mem hlt))
          obtain ⟨y, hy⟩ : ∃ y, x.f4[i] = y := ⟨_, rfl⟩
          rw [hy] at HYE hst z0 z1 z2 z3 z4 z5 l4 g4 l5 g5
          have G4 := Aside0.mk g4
          have G5 := Aside0.mk g5
          have Z0 := Aside0.mk z0
          have Z1 := Aside0.mk z1
          have Z2 := Aside0.mk z2
          have Z3 := Aside0.mk z3
          have Z4 := Aside0.mk z4
          have Z5 := Aside0.mk z5
          clear hy g4 g5 z0 z1 z2 z3 z4 z5
          obtain ⟨ak, rfl, hq5⟩ := Kd.at_string HR5.out (i : Int) (by omega) (by have := hlen5.out; omega)
          rw [qAy x.f5 i (by have := hlen5.out; omega), Int.toNat_natCast] at hq5
          have Q5 := Aside0.mk hq5
          clear hq5
          have hi5 : i < x.f5.length := (by have := hlen5.out; omega)
          have hkz := HSK.out _ (List.getElem_mem (show i < x.f5.length from (by have := hlen5.out; omega)))
          obtain ⟨K5, hK5⟩ := qB9 (x.f5[i]'(by have := hlen5.out; omega)) (by omega)
          have HK5 := Aside0.mk (hK5 K5 (Nat.le_refl _))
          clear hK5
          obtain ⟨key, hkey⟩ : ∃ key, x.f5[i]'(by have := hlen5.out; omega) = key := ⟨_, rfl⟩
          rw [hkey] at Q5 hkz HK5 hst
          clear hkey
          simp only at HK5
          rw [if_pos hz, List.nil_append] at hst
          rw [dif_pos rfl] at hst
          have hLn := congrArg List.length hst
          try simp only [List.length_append, List.length_cons, List.length_nil] at hLn
          have hi0 : (decide ((0 : Int) < (i : Int))) = false := decide_eq_false (by omega)
          have hi1 : ¬ ((0 : Int) < (i : Int)) := by omega
          have HE := Aside0.mk (show ((bl ++ 123 :: joinC 44 ((qAo (textI d) true x.f4 x.f5).take i)) ++ qAt (quoteB key) ++ [58]) ++ textI d y = bl ++ 123 :: joinC 44 ((qAo (textI d) true x.f4 x.f5).take (i + 1)) by rw [hst]; simp [joinC, qA2, hz])
          have hLE : ((bl ++ 123 :: joinC 44 ((qAo (textI d) true x.f4 x.f5).take i)) ++ qAt (quoteB key) ++ [58]).length + (textI d y).length ≤ 140737488355000 := by
            have h_ := congrArg List.length HE.out
            simp only [List.length_append, List.length_cons, List.length_nil] at h_ ⊢
            omega
          have hLF := hLE
          try simp only [qA2, List.length_append, List.length_cons, List.length_nil] at hLF
          clear hst hz
          obtain ⟨x0, x1, x2, x3, x4, x5⟩ := qAq HXr.out
          have q5 := qAk HBr.out Q5.out
          have z0 := qAk HBr.out Z0.out
          have z1 := qAk HBr.out Z1.out
          have z2 := qAk HBr.out Z2.out
          have z3 := qAk HBr.out Z3.out
          have z4 := qAk HBr.out Z4.out
          have z5 := qAk HBr.out Z5.out
          go_wp2_with fail
          refine (hogsheadref15_Quote.calls K5 _ _ _ HK5.out).mono ?_
          rintro e wq ⟨rfl, hbq⟩
          have HBq := Aside0.mk (qB6 HBr.out HBr.out.size hbq)
          have HKq := Aside0.mk (KeepT.trans HKr.out (KeepT.of_below hbq))
          have HOq := Aside0.mk (qBi HOr.out hbq)
          clear hbq x0 x1 x2 x3 x4 x5
          clear q5 z0 z1 z2 z3 z4 z5
          go_wp2_with (first | ((with_reducible refine qAs (b := .append) rfl ?_); at_builtin; refine qA8 (w0 := w0) w0.heap.size rfl _ _ 78 9 5 rfl Tryd.underlying78 Tryd.underlying9 infoU8 (vb) ((bl ++ 123 :: joinC 44 ((qAo (textI d) true x.f4 x.f5).take i))) ((quoteB key)) rfl rfl ?aO ?aB ?aS ?aL ?_; (case aO => exact HOq.out); (case aB => exact HBq.out); (case aS => exact HBq.out.size); (case aL => (try rw [← qA1]); (try rw [qA2]); (try simp only [List.length_append, List.length_cons, List.length_nil]); omega); intro vc wc ho1_ hb1_ hg1_; have HOwc := Aside0.mk ho1_; have HBwc := Aside0.mk hb1_; have HKwc := Aside0.mk (KeepT.trans HKq.out (KeepT.of_grown HOq.out hg1_)); clear ho1_ hb1_ hg1_) | ((with_reducible refine qAs (b := .append) rfl ?_); at_builtin; go_must (refine qA7 (w0 := w0) w0.heap.size rfl _ _ 78 5 .u8 1 rfl Tryd.underlying78 infoU8 (by decide) (vc) (((bl ++ 123 :: joinC 44 ((qAo (textI d) true x.f4 x.f5).take i)) ++ qAt (quoteB key))) (58) rfl (by first | rfl | (rw [hsz]; rfl)) ?aO ?aB ?aS ?aL ?_; (case aO => exact HOwc.out); (case aB => exact HBwc.out); (case aS => exact HBwc.out.size); (case aL => (try rw [Nat.mul_one]); (try simp only [List.length_append, List.length_cons, List.length_nil]); (try rw [qA2]); omega); intro vd wd ho1_ hb1_ hg1_ hat_; have HOwd := Aside0.mk ho1_; have HBwd := Aside0.mk hb1_; have HKwd := Aside0.mk (KeepT.trans HKwc.out (KeepT.of_grown HOwc.out hg1_)); clear ho1_ hb1_ hg1_ hat_; have HXwd := Aside0.mk (HKwd.out.2 _ _ _ _ HXr.out (by decide)); obtain ⟨x0, x1, x2, x3, x4, x5⟩ := qAq HXwd.out; clear HXwd; have z0 := qAk HBwd.out Z0.out; have z1 := qAk HBwd.out Z1.out; have z2 := qAk HBwd.out Z2.out; have z3 := qAk HBwd.out Z3.out; have z4 := qAk HBwd.out Z4.out; have z5 := qAk HBwd.out Z5.out)))
          refine (ih y vd ((bl ++ 123 :: joinC 44 ((qAo (textI d) true x.f4 x.f5).take i)) ++ qAt (quoteB key) ++ [58]) B4 b4 B5 b5 w0 _ HYE.out G4.out l4 G5.out l5 HBwd.out HOwd.out hLE).mono ?_
          rintro e w5 ⟨v5, rfl, ho5, hb5, hk5⟩
          rw [HE.out] at ho5
          have HO5 := Aside0.mk ho5
          have HB5 := Aside0.mk hb5
          have HK5_ := Aside0.mk (KeepT.trans HKwd.out hk5)
          have HX5 := Aside0.mk (HK5_.out.2 _ _ _ _ HXr.out (by decide))
          clear ho5 hb5 hk5 x0 x1 x2 x3 x4 x5 z0 z1 z2 z3 z4 z5
          go_wp2_with fail
          go_roundw
          case rel => exact ⟨i + 1, v5, rfl, by go_num, by omega, HO5, HB5, ⟨KeepT.trans HKw.out HK5_.out⟩, HX5⟩
          case measure => simp [intOf]; omega
        · skip
          obtain ⟨ad, B4, b4, B5, b5, rfl, z0, z1, z2, z3, z4, z5, l4, g4, l5, g5⟩ := at_T25 HR4.out (i : Int) (by omega) (by omega)
          simp only [qEu x.f4 i hlt, Int.toNat_natCast] at z0 z1 z2 z3 z4 z5 l4 g4 l5 g5
          have HYE := Aside0.mk (HSE.out _ (List.getElem_mem hlt))
          obtain ⟨y, hy⟩ : ∃ y, x.f4[i] = y := ⟨_, rfl⟩
          rw [hy] at HYE hst z0 z1 z2 z3 z4 z5 l4 g4 l5 g5
          have G4 := Aside0.mk g4
          have G5 := Aside0.mk g5
          have Z0 := Aside0.mk z0
          have Z1 := Aside0.mk z1
          have Z2 := Aside0.mk z2
          have Z3 := Aside0.mk z3
          have Z4 := Aside0.mk z4
          have Z5 := Aside0.mk z5
          clear hy g4 g5 z0 z1 z2 z3 z4 z5
          obtain ⟨ak, rfl, hq5⟩ := Kd.at_string HR5.out (i : Int) (by omega) (by have := hlen5.out; omega)
          rw [qAy x.f5 i (by have := hlen5.out; omega), Int.toNat_natCast] at hq5
          have Q5 := Aside0.mk hq5
          clear hq5
          have hi5 : i < x.f5.length := (by have := hlen5.out; omega)
          have hkz := HSK.out _ (List.getElem_mem (show i < x.f5.length from (by have := hlen5.out; omega)))
          obtain ⟨K5, hK5⟩ := qB9 (x.f5[i]'(by have := hlen5.out; omega)) (by omega)
          have HK5 := Aside0.mk (hK5 K5 (Nat.le_refl _))
          clear hK5
          obtain ⟨key, hkey⟩ : ∃ key, x.f5[i]'(by have := hlen5.out; omega) = key := ⟨_, rfl⟩
          rw [hkey] at Q5 hkz HK5 hst
          clear hkey
          simp only at HK5
          rw [if_neg hz] at hst
          rw [dif_pos rfl] at hst
          have hLn := congrArg List.length hst
          try simp only [List.length_append, List.length_cons, List.length_nil] at hLn
          have hi0 : (decide ((0 : Int) < (i : Int))) = true := decide_eq_true (by omega)
          have hi1 : (0 : Int) < (i : Int) := by omega
          have HE := Aside0.mk (show (((bl ++ 123 :: joinC 44 ((qAo (textI d) true x.f4 x.f5).take i)) ++ [44]) ++ qAt (quoteB key) ++ [58]) ++ textI d y = bl ++ 123 :: joinC 44 ((qAo (textI d) true x.f4 x.f5).take (i + 1)) by rw [hst]; simp [joinC, qA2])
          have hLE : (((bl ++ 123 :: joinC 44 ((qAo (textI d) true x.f4 x.f5).take i)) ++ [44]) ++ qAt (quoteB key) ++ [58]).length + (textI d y).length ≤ 140737488355000 := by
            have h_ := congrArg List.length HE.out
            simp only [List.length_append, List.length_cons, List.length_nil] at h_ ⊢
            omega
          have hLF := hLE
          try simp only [qA2, List.length_append, List.length_cons, List.length_nil] at hLF
          clear hst hz
          obtain ⟨x0, x1, x2, x3, x4, x5⟩ := qAq HXr.out
          have q5 := qAk HBr.out Q5.out
          have z0 := qAk HBr.out Z0.out
          have z1 := qAk HBr.out Z1.out
          have z2 := qAk HBr.out Z2.out
          have z3 := qAk HBr.out Z3.out
          have z4 := qAk HBr.out Z4.out
          have z5 := qAk HBr.out Z5.out
          go_wp2_with (((with_reducible refine qAs (b := .append) rfl ?_); at_builtin; go_must (refine qA7 (w0 := w0) w0.heap.size rfl _ _ 78 5 .u8 1 rfl Tryd.underlying78 infoU8 (by decide) (vb) ((bl ++ 123 :: joinC 44 ((qAo (textI d) true x.f4 x.f5).take i))) (44) rfl (by first | rfl | (rw [hsz]; rfl)) ?aO ?aB ?aS ?aL ?_; (case aO => exact HOr.out); (case aB => exact HBr.out); (case aS => exact HBr.out.size); (case aL => (try rw [Nat.mul_one]); (try simp only [List.length_append, List.length_cons, List.length_nil]); omega); intro va wa ho1_ hb1_ hg1_ hat_; have HOwa := Aside0.mk ho1_; have HBwa := Aside0.mk hb1_; have HKwa := Aside0.mk (KeepT.trans HKr.out (KeepT.of_grown HOr.out hg1_)); clear ho1_ hb1_ hg1_ hat_; clear x0 x1 x2 x3 x4 x5; clear q5 z0 z1 z2 z3 z4 z5; have HXwa := Aside0.mk (HKwa.out.2 _ _ _ _ HXr.out (by decide)); obtain ⟨x0, x1, x2, x3, x4, x5⟩ := qAq HXwa.out; clear HXwa; have q5 := qAk HBwa.out Q5.out; have z0 := qAk HBwa.out Z0.out; have z1 := qAk HBwa.out Z1.out; have z2 := qAk HBwa.out Z2.out; have z3 := qAk HBwa.out Z3.out; have z4 := qAk HBwa.out Z4.out; have z5 := qAk HBwa.out Z5.out)))
          refine (hogsheadref15_Quote.calls K5 _ _ _ HK5.out).mono ?_
          rintro e wq ⟨rfl, hbq⟩
          have HBq := Aside0.mk (qB6 HBwa.out HBwa.out.size hbq)
          have HKq := Aside0.mk (KeepT.trans HKwa.out (KeepT.of_below hbq))
          have HOq := Aside0.mk (qBi HOwa.out hbq)
          clear hbq x0 x1 x2 x3 x4 x5
          clear q5 z0 z1 z2 z3 z4 z5
          go_wp2_with (first | ((with_reducible refine qAs (b := .append) rfl ?_); at_builtin; refine qA8 (w0 := w0) w0.heap.size rfl _ _ 78 9 5 rfl Tryd.underlying78 Tryd.underlying9 infoU8 (va) (((bl ++ 123 :: joinC 44 ((qAo (textI d) true x.f4 x.f5).take i)) ++ [44])) ((quoteB key)) rfl rfl ?aO ?aB ?aS ?aL ?_; (case aO => exact HOq.out); (case aB => exact HBq.out); (case aS => exact HBq.out.size); (case aL => (try rw [← qA1]); (try rw [qA2]); (try simp only [List.length_append, List.length_cons, List.length_nil]); omega); intro vc wc ho1_ hb1_ hg1_; have HOwc := Aside0.mk ho1_; have HBwc := Aside0.mk hb1_; have HKwc := Aside0.mk (KeepT.trans HKq.out (KeepT.of_grown HOq.out hg1_)); clear ho1_ hb1_ hg1_) | ((with_reducible refine qAs (b := .append) rfl ?_); at_builtin; go_must (refine qA7 (w0 := w0) w0.heap.size rfl _ _ 78 5 .u8 1 rfl Tryd.underlying78 infoU8 (by decide) (vc) ((((bl ++ 123 :: joinC 44 ((qAo (textI d) true x.f4 x.f5).take i)) ++ [44]) ++ qAt (quoteB key))) (58) rfl (by first | rfl | (rw [hsz]; rfl)) ?aO ?aB ?aS ?aL ?_; (case aO => exact HOwc.out); (case aB => exact HBwc.out); (case aS => exact HBwc.out.size); (case aL => (try rw [Nat.mul_one]); (try simp only [List.length_append, List.length_cons, List.length_nil]); (try rw [qA2]); omega); intro vd wd ho1_ hb1_ hg1_ hat_; have HOwd := Aside0.mk ho1_; have HBwd := Aside0.mk hb1_; have HKwd := Aside0.mk (KeepT.trans HKwc.out (KeepT.of_grown HOwc.out hg1_)); clear ho1_ hb1_ hg1_ hat_; have HXwd := Aside0.mk (HKwd.out.2 _ _ _ _ HXr.out (by decide)); obtain ⟨x0, x1, x2, x3, x4, x5⟩ := qAq HXwd.out; clear HXwd; have z0 := qAk HBwd.out Z0.out; have z1 := qAk HBwd.out Z1.out; have z2 := qAk HBwd.out Z2.out; have z3 := qAk HBwd.out Z3.out; have z4 := qAk HBwd.out Z4.out; have z5 := qAk HBwd.out Z5.out)))
          refine (ih y vd (((bl ++ 123 :: joinC 44 ((qAo (textI d) true x.f4 x.f5).take i)) ++ [44]) ++ qAt (quoteB key) ++ [58]) B4 b4 B5 b5 w0 _ HYE.out G4.out l4 G5.out l5 HBwd.out HOwd.out hLE).mono ?_
          rintro e w5 ⟨v5, rfl, ho5, hb5, hk5⟩
          rw [HE.out] at ho5
          have HO5 := Aside0.mk ho5
          have HB5 := Aside0.mk hb5
          have HK5_ := Aside0.mk (KeepT.trans HKwd.out hk5)
          have HX5 := Aside0.mk (HK5_.out.2 _ _ _ _ HXr.out (by decide))
          clear ho5 hb5 hk5 x0 x1 x2 x3 x4 x5 z0 z1 z2 z3 z4 z5
          go_wp2_with fail
          go_roundw
          case rel => exact ⟨i + 1, v5, rfl, by go_num, by omega, HO5, HB5, ⟨KeepT.trans HKw.out HK5_.out⟩, HX5⟩
          case measure => simp [intOf]; omega
      · have hie : i = x.f4.length := by omega
        have hpt : (qAo (textI d) true x.f4 x.f5).take i = (qAo (textI d) true x.f4 x.f5) := List.take_of_length_le (by rw [qBp]; omega)
        rw [hpt] at HOr
        obtain ⟨x0, x1, x2, x3, x4, x5⟩ := qAq HXr.out
        go_wp2_with (((with_reducible refine qAs (b := .append) rfl ?_); at_builtin; go_must (refine qA7 (w0 := w0) w0.heap.size rfl _ _ 78 5 .u8 1 rfl Tryd.underlying78 infoU8 (by decide) (vb) ((bl ++ 123 :: joinC 44 (qAo (textI d) true x.f4 x.f5))) (125) rfl (by first | rfl | (rw [hsz]; rfl)) ?aO ?aB ?aS ?aL ?_; (case aO => exact HOr.out); (case aB => exact HBr.out); (case aS => exact HBr.out.size); (case aL => (try rw [Nat.mul_one]); (try simp only [List.length_append, List.length_cons, List.length_nil]); omega); intro vz wz ho1_ hb1_ hg1_ hat_; have HOwz := Aside0.mk ho1_; have HBwz := Aside0.mk hb1_; have HKwz := Aside0.mk (KeepT.trans HKr.out (KeepT.of_grown HOr.out hg1_)); clear ho1_ hb1_ hg1_ hat_)))
        have hE : (bl ++ 123 :: joinC 44 (qAo (textI d) true x.f4 x.f5)) ++ [125] = bl ++ 123 :: (joinC 44 (qAo (textI d) true x.f4 x.f5) ++ [125]) := by simp
        rw [hE] at HOwz
        go_ret
        exact ⟨vz, rfl, HOwz.out, HBwz.out, ⟨by have := KeepT.trans HKw.out HKwz.out; exact this.1, (KeepT.trans HKw.out HKwz.out).2⟩⟩
theorem qHv (d : Nat) : ∀ (x : S25) (bv : Value) (bl : List Int) (A4 : Option Addr) (c4 : Nat) (A5 : Option Addr) (c5 : Nat) (w0 w : World) (hs : okV d x) (hr4 : k25.C w0 A4 x.f4.length x.f4) (hc4 : x.f4.length ≤ c4) (hr5 : Kd.string.C w0 A5 x.f5.length x.f5) (hc5 : x.f5.length ≤ c5)
    (h0 : Below w0.heap.size w0 w) (ho : w.ownsRow w0.heap.size 5 1 bv bl.length (nums .u8 bl)) (hl : bl.length + (textI d x).length ≤ 140737488355000),
    Calls Tryd.prog 48 #[bv, .agg #[.int .i64 x.f0, .bool x.f1, .int .i64 x.f2, .string x.f3, .slice A4 x.f4.length c4, .slice A5 x.f5.length c5]] w fun e w' =>
      ∃ v, e = .returned v ∧ w'.ownsRow w0.heap.size 5 1 v (bl ++ textI d x).length (nums .u8 (bl ++ textI d x)) ∧ Below w0.heap.size w0 w' ∧ KeepT w w' := by
  induction d with
  | zero => intro x bv bl A4 c4 A5 c5 w0 w hs; exact hs.elim
  | succ d ih =>
    intro x bv bl A4 c4 A5 c5 w0 w hs hr4 hc4 hr5 hc5 h0 ho hl
    have hk0 := hs.1
    have hk5 := hs.2.1
    have hcase : x.f0 = 0 ∨ x.f0 = 1 ∨ x.f0 = 2 ∨ x.f0 = 3 ∨ x.f0 = 4 ∨ x.f0 = 5 := by omega
    rcases hcase with h | h | h | h | h | h
    · exact qIn d x bv bl A4 c4 A5 c5 w0 w hs h0 ho hl h
    · cases h1 : x.f1 with
      | true => rw [← h1]; exact qIl d x bv bl A4 c4 A5 c5 w0 w hs h1 h0 ho hl h
      | false => rw [← h1]; exact qHu d x bv bl A4 c4 A5 c5 w0 w hs h1 h0 ho hl h
    · exact qI7 d x bv bl A4 c4 A5 c5 w0 w hs h0 ho hl h
    · exact qIm d x bv bl A4 c4 A5 c5 w0 w hs h0 ho hl h
    · exact qIo d x bv bl A4 c4 A5 c5 w0 w hs ih hr4 hc4 hr5 hc5 h0 ho hl h
    · exact qGy d x bv bl A4 c4 A5 c5 w0 w hs ih hr4 hc4 hr5 hc5 h0 ho hl h
def okB : Nat → S25 → Bool
  | 0, _ => false
  | d + 1, x => decide (0 ≤ x.f0 ∧ x.f0 ≤ 5 ∧ -9007199254740992 ≤ x.f2 ∧ x.f2 ≤ 9007199254740992 ∧ x.f3.size ≤ 1000000 ∧ x.f4.length ≤ 100000 ∧ x.f5.length ≤ 100000 ∧ (x.f0 = 5 → x.f5.length = x.f4.length)) && (x.f5.all (fun s => decide (s.size ≤ 1000000)) && x.f4.all (okB d))
theorem okB_ok : ∀ d x, okB d x = true ↔ okV d x
  | 0, _ => by simp [okB, okV]
  | d + 1, x => by
    have ih := okB_ok d
    simp only [okB, okV, Bool.and_eq_true, decide_eq_true_eq, List.all_eq_true]
    constructor
    · rintro ⟨⟨h0, h1, h2, h3, h4, h5, h6, h7⟩, h8, h9⟩
      exact ⟨h0, h1, h2, h3, h4, h5, h6, fun s hs => h8 s hs, h7, fun y hy => (ih y).1 (h9 y hy)⟩
    · rintro ⟨h0, h1, h2, h3, h4, h5, h6, h8, h7, h9⟩
      exact ⟨⟨h0, h1, h2, h3, h4, h5, h6, h7⟩, fun s hs => h8 s hs, fun y hy => (ih y).2 (h9 y hy)⟩
def textB (d : Nat) (x : S25) : ByteArray := strOfNums (textI d x)
def hogsheadref15_Lay.f (k : Nat) (a0_0 : Int) (a0_1 : Bool) (a0_2 : Int) (a0_3 : ByteArray) (l0_4 : List (S25)) (l0_5 : List ByteArray) : Option (ByteArray × Int) :=
  (hogsheadref15_May.f k a0_0 a0_1 a0_2 a0_3 l0_4 l0_5).bind fun m => if m = true then (if okB 16 ⟨a0_0, a0_1, a0_2, a0_3, l0_4, l0_5⟩ = true ∧ (textI 16 ⟨a0_0, a0_1, a0_2, a0_3, l0_4, l0_5⟩).length ≤ 140737488355000 then some (textB 16 ⟨a0_0, a0_1, a0_2, a0_3, l0_4, l0_5⟩, 0) else none) else some (ByteArray.empty, 2)
set_option maxHeartbeats 1600000 in
set_option maxRecDepth 100000 in
theorem hogsheadref15_Lay.calls (k : Nat) (a0_0 : Int) (a0_1 : Bool) (a0_2 : Int) (a0_3 : ByteArray) (A0_4 : Option Addr) (c0_4 : Nat) (l0_4 : List (S25)) (A0_5 : Option Addr) (c0_5 : Nat) (l0_5 : List ByteArray) (r1 : ByteArray) (r2 : Int) (w : World) (hr0_4 : Kd.C k25 w A0_4 l0_4.length l0_4) (hc0_4 : l0_4.length ≤ c0_4) (hr0_5 : Kd.C Kd.string w A0_5 l0_5.length l0_5) (hc0_5 : l0_5.length ≤ c0_5) (h : hogsheadref15_Lay.f k a0_0 a0_1 a0_2 a0_3 l0_4 l0_5 = some (r1, r2)) :
    Calls Tryd.prog 17 #[.agg #[.int .i64 a0_0, .bool a0_1, .int .i64 a0_2, .string a0_3, .slice A0_4 l0_4.length c0_4, .slice A0_5 l0_5.length c0_5]] w fun e w' => e = .returned (.tuple #[.string r1, .int .i64 r2]) ∧ Below w.heap.size w w' := by
  have HR4 := Aside0.mk hr0_4
  have HR5 := Aside0.mk hr0_5
  clear hr0_4 hr0_5
  obtain ⟨m, hm, h⟩ := Option.bind_eq_some_iff.1 h
  have HM := Aside0.mk hm
  have H := Aside0.mk h
  clear hm h
  have HB0 := Aside0.mk (qAd (Below.refl w.heap.size w) (.cells #[.int .i64 a0_0, .bool a0_1, .int .i64 a0_2, .string a0_3, .slice A0_4 l0_4.length c0_4, .slice A0_5 l0_5.length c0_5] 25))
  have HX0 := Aside0.mk (qA9 w (.cells #[.int .i64 a0_0, .bool a0_1, .int .i64 a0_2, .string a0_3, .slice A0_4 l0_4.length c0_4, .slice A0_5 l0_5.length c0_5] 25))
  go_enter Tryd.func17, Tryd.ntmps17
  obtain ⟨x0, x1, x2, x3, x4, x5⟩ := qAq HX0.out
  go_wp2_with fail
  refine (hogsheadref15_May.calls k a0_0 a0_1 a0_2 a0_3 _ _ l0_4 _ _ l0_5 m _ (Kd.C_below HR4.out HB0.out) hc0_4 (Kd.C_below HR5.out HB0.out) hc0_5 HM.out).mono ?_
  rintro e w2 ⟨rfl, hb2⟩
  have HB2 := Aside0.mk (qAj HB0.out hb2)
  have HX2 := Aside0.mk (qAi HX0.out hb2)
  clear hb2 x0 x1 x2 x3 x4 x5 HX0 HB0
  obtain ⟨x0, x1, x2, x3, x4, x5⟩ := qAq HX2.out
  cases m with
  | false =>
    have h := H.out
    simp only [Bool.false_eq_true, if_false, reduceIte] at h
    cases h
    go_wp2_with fail
    go_ret2
    exact ⟨rfl, HB2.out⟩
  | true =>
    have h := H.out
    rw [if_pos rfl] at h
    split at h
    · rename_i hc
      have HC := Aside0.mk hc.2
      have hok := (okB_ok _ _).1 hc.1
      cases h
      clear hc H
      go_wp2_with fail
      refine (qHv 16 ⟨a0_0, a0_1, a0_2, a0_3, l0_4, l0_5⟩ (.slice none 0 0) [] A0_4 c0_4 A0_5 c0_5 w2 w2 hok (Kd.C_below HR4.out HB2.out) hc0_4 (Kd.C_below HR5.out HB2.out) hc0_5 (Below.refl _ _) ⟨rfl, .inl ⟨rfl, rfl⟩⟩ (by have := HC.out; simp only [List.length_nil]; omega)).mono ?_
      rintro e w3 ⟨v3, rfl, ho3, hb3, -⟩
      have HR3 := (Kd.R_of_own (h1 := fun _ => rfl) (ok := fun _ => True) ho3 (fun _ _ => trivial) : (Kd.int .u8).R 5 w3 w2.heap.size (fun _ => True) v3 ([] ++ textI 16 ⟨a0_0, a0_1, a0_2, a0_3, l0_4, l0_5⟩))
      rw [List.nil_append] at HR3
      obtain ⟨A3, c3, rfl⟩ := Kd.R_slice HR3
      have HR3' := (Kd.R_reads' HR3).2.2
      have hcv := Kd.C_string (P := Tryd.prog) (A := A3) (c := c3) Tryd.underlying78 Tryd.underlying5 Tryd.underlying9 HR3'
      have HB3 := Aside0.mk (qAj HB2.out hb3)
      clear HR3 HR3' ho3 hb3
      go_wp2_with fail
      go_ret2
      exact ⟨rfl, HB3.out⟩
    · cases h
end Go.Proofs.YtbnoihpooeombaaDoor.X

namespace Go.Proofs.YtbnoihpooeombaaDoor.X
open Go.RowKit Go.WideShapes Go.ChangeShapes Go.Proofs.YtbnoihpooeombaaDoorW.PrintWords Go.Proofs.YtbnoihpooeombaaDoor.P
set_option linter.unusedVariables false
section
variable {H : Type} {enc : TypeId × Value → H} {w : World} {base : Nat} {spare : Nat → Bool} {held : Bool}
theorem qFl {P : Program} {α : Type} (d : Kd α) (dflt : α) {t e : TypeId} (ht : P.underlying t = some (.slice e)) (hc : P.cellsOf e = d.sz) {fuel : Nat} {cs : List Value} {x : DataW H × List MemPlace}
    (hel : ∀ n cs x, n < fuel → DataW.trod enc P w base spare held n e cs = some x → ∃ y, d.K w y cs) (h : DataW.trod enc P w base spare held fuel t cs = some x) :
    ∃ (A : Option Addr) (c : Nat) (l : List α), cs = [.slice A l.length c] ∧ l.length ≤ c ∧ d.C w A l.length l := by
  rcases DataW.trod_slice ht h with ⟨rfl, _⟩ | ⟨a, len, cap, elems, rest, n, rfl, rfl, _, hb, hl, hm, hlen, hE, _, _⟩
  · exact ⟨none, 0, [], rfl, Nat.le_refl _, rfl, by simp, fun h => absurd h (by simp)⟩
  · haveI : Inhabited α := ⟨dflt⟩
    have hone : ∀ i, i < len → ∃ y : α, ∃ c : List Value, c.length = d.sz ∧ d.K w y c ∧ ∀ j u, c[j]? = some u → w.cell? (a.add (i * d.sz + j)) = some u := by
      intro i hi
      have h1 := hE i hi
      rw [List.getElem?_eq_getElem (by omega)] at h1
      obtain ⟨cs', h2, h3⟩ := Option.bind_eq_some_iff.1 h1
      obtain ⟨y, hy⟩ := hel n cs' _ (Nat.lt_succ_self n) h3
      obtain ⟨_, h4, h5⟩ := World.cells?_some h2
      rw [hc] at h4 h5
      refine ⟨y, cs', h4, hy, fun j u hj => ?_⟩
      have hjl : j < d.sz := by
        have := (List.getElem?_eq_some_iff.1 hj).1; omega
      have h6 := h5 j hjl
      rw [Go.Deep.add_add] at h6
      rw [h6, hj]
    obtain ⟨f, hf⟩ := Go.Deep.choose_lt hone
    refine ⟨some a, cap, (List.range len).map f, by simp, by simpa using hl, by simp, by simpa [maxLen] using Nat.le_trans hl hm, fun _ => ⟨a, rfl, fun j p hp => ?_⟩⟩
    have hj : j < len := by
      have := (List.getElem?_eq_some_iff.1 hp).1; simpa using this
    have : f j = p := by simpa [hj] using hp
    subst this
    exact hf j hj
set_option maxRecDepth 100000 in
theorem qIc {fuel : Nat} {cs : List Value} {x : DataW H × List MemPlace} (h : DataW.trod enc Tryd.prog w base spare held fuel 9 cs = some x) : ∃ y : ByteArray, Kd.string.K w y cs := by
  obtain ⟨s, rfl, _, _⟩ := DataW.trod_string Tryd.underlying9 h
  exact ⟨s, rfl⟩
set_option maxRecDepth 100000 in
theorem qG4 {fuel : Nat} {cs : List Value} {x : DataW H × List MemPlace} (h : DataW.trod enc Tryd.prog w base spare held fuel 23 cs = some x) :
    ∃ (A : Option Addr) (c : Nat) (l : List ByteArray), cs = [.slice A l.length c] ∧ l.length ≤ c ∧ Kd.string.C w A l.length l :=
  qFl Kd.string ByteArray.empty Tryd.underlying23 (by kernel_rfl) (fun n cs x _ h => qIc h) h
set_option maxRecDepth 100000 in
theorem trod_V : ∀ (fuel : Nat) (cs : List Value) (x : DataW H × List MemPlace), DataW.trod enc Tryd.prog w base spare held fuel 25 cs = some x → ∃ y : S25, k25.K w y cs := by
  intro fuel
  induction fuel using Nat.strongRecOn with
  | _ fuel ih =>
    intro cs x h
    obtain ⟨xs, n, rfl, _, hl, hxl, hf⟩ := DataW.trod_struct Tryd.underlying25 h
    have hC : Tryd.prog.cellsOf 25 = 6 := by kernel_rfl
    rw [hC] at hl
    obtain ⟨c0, c1, c2, c3, c4, c5, rfl⟩ : ∃ c0 c1 c2 c3 c4 c5, cs = [c0, c1, c2, c3, c4, c5] := by
      rcases cs with _ | ⟨c0, _ | ⟨c1, _ | ⟨c2, _ | ⟨c3, _ | ⟨c4, _ | ⟨c5, _ | ⟨c6, cs⟩⟩⟩⟩⟩⟩⟩ <;> simp only [List.length_cons, List.length_nil] at hl <;> first | (exact ⟨c0, c1, c2, c3, c4, c5, rfl⟩) | omega
    have hx : ∀ i, i < 6 → ∃ z, xs[i]? = some z := fun i hi => ⟨_, List.getElem?_eq_getElem (by rw [hxl]; exact hi)⟩
    have k1 : ∀ t, Tryd.prog.cellsOf t = 1 → Tryd.prog.cellsOf t = 1 := fun _ h => h
    have t1 : Tryd.prog.cellsOf 3 = 1 := by kernel_rfl
    have t2 : Tryd.prog.cellsOf 4 = 1 := by kernel_rfl
    have t3 : Tryd.prog.cellsOf 9 = 1 := by kernel_rfl
    have t4 : Tryd.prog.cellsOf 22 = 1 := by kernel_rfl
    have t5 : Tryd.prog.cellsOf 23 = 1 := by kernel_rfl
    obtain ⟨z0, e0⟩ := hx 0 (by omega)
    obtain ⟨z1, e1⟩ := hx 1 (by omega)
    obtain ⟨z2, e2⟩ := hx 2 (by omega)
    obtain ⟨z3, e3⟩ := hx 3 (by omega)
    obtain ⟨z4, e4⟩ := hx 4 (by omega)
    obtain ⟨z5, e5⟩ := hx 5 (by omega)
    have f0 : DataW.trod enc Tryd.prog w base spare held n 3 (([c0, c1, c2, c3, c4, c5].drop 0).take (Tryd.prog.cellsOf 3)) = some z0 := (hf 0 _ rfl).trans e0
    have f1 : DataW.trod enc Tryd.prog w base spare held n 4 (([c0, c1, c2, c3, c4, c5].drop 1).take (Tryd.prog.cellsOf 4)) = some z1 := (hf 1 _ rfl).trans e1
    have f2 : DataW.trod enc Tryd.prog w base spare held n 3 (([c0, c1, c2, c3, c4, c5].drop 2).take (Tryd.prog.cellsOf 3)) = some z2 := (hf 2 _ rfl).trans e2
    have f3 : DataW.trod enc Tryd.prog w base spare held n 9 (([c0, c1, c2, c3, c4, c5].drop 3).take (Tryd.prog.cellsOf 9)) = some z3 := (hf 3 _ rfl).trans e3
    have f4 : DataW.trod enc Tryd.prog w base spare held n 22 (([c0, c1, c2, c3, c4, c5].drop 4).take (Tryd.prog.cellsOf 22)) = some z4 := (hf 4 _ rfl).trans e4
    have f5 : DataW.trod enc Tryd.prog w base spare held n 23 (([c0, c1, c2, c3, c4, c5].drop 5).take (Tryd.prog.cellsOf 23)) = some z5 := (hf 5 _ rfl).trans e5
    simp only [t1, t2, t3, t4, t5, List.drop_zero, List.drop_succ_cons, List.take_succ_cons, List.take_zero] at f0 f1 f2 f3 f4 f5
    obtain ⟨n0, g0, _, _⟩ := DataW.trod_int Tryd.underlying3 f0
    obtain ⟨b1, g1, _⟩ := DataW.trod_bool Tryd.underlying4 f1
    obtain ⟨n2, g2, _, _⟩ := DataW.trod_int Tryd.underlying3 f2
    obtain ⟨s3, g3, _, _⟩ := DataW.trod_string Tryd.underlying9 f3
    obtain ⟨A4, d4, l4, g4, h4, r4⟩ := qFl k25 z25 Tryd.underlying22 (by kernel_rfl) (fun m cs x hm h => ih m (by omega) cs x h) f4
    obtain ⟨A5, d5, l5, g5, h5, r5⟩ := qG4 f5
    simp only [List.cons.injEq, and_true] at g0 g1 g2 g3 g4 g5
    subst g0 g1 g2 g3 g4 g5
    exact ⟨⟨n0, b1, n2, s3, l4, l5⟩, k25_mk w ⟨n0, b1, n2, s3, l4, l5⟩ h4 r4 h5 r5⟩
set_option maxRecDepth 100000 in
theorem open_V {r : Reach} {b0 : Nat} {v : Value} {d : DataW H} {ps : List MemPlace} (hval : Value.okWide Tryd.prog w r b0 25 v) (hd : DataW.Trod enc Tryd.prog w base spare held 25 v d ps) :
    ∃ (y : S25) (A4 : Option Addr) (c4 : Nat) (A5 : Option Addr) (c5 : Nat), v = .agg #[.int .i64 y.f0, .bool y.f1, .int .i64 y.f2, .string y.f3, .slice A4 y.f4.length c4, .slice A5 y.f5.length c5] ∧ y.f4.length ≤ c4 ∧ k25.C w A4 y.f4.length y.f4 ∧ y.f5.length ≤ c5 ∧ Kd.string.C w A5 y.f5.length y.f5 := by
  obtain ⟨cs, rfl, _⟩ := okWide_struct Tryd.underlying25 hval
  obtain ⟨fuel, hf⟩ := hd
  obtain ⟨y, hy⟩ := trod_V fuel _ _ hf
  obtain ⟨A4, c4, A5, c5, e, h4, r4, h5, r5⟩ := qCo hy
  have e' : cs.toList = [.int .i64 y.f0, .bool y.f1, .int .i64 y.f2, .string y.f3, .slice A4 y.f4.length c4, .slice A5 y.f5.length c5] := e
  refine ⟨y, A4, c4, A5, c5, ?_, h4, r4, h5, r5⟩
  congr 1
  exact Array.toList_inj.1 e'
end
end Go.Proofs.YtbnoihpooeombaaDoor.X

namespace Go.Proofs.YtbnoihpooeombaaDoor.P
open Go.Proofs.YtbnoihpooeombaaDoor.X
open Go.RowKit Go.Proofs.YtbnoihpooeombaaDoorW.PrintWords Go.Proofs.YtbnoihpooeombaaDoorW.PrintLast Go.Proofs.YtbnoihpooeombaaDoorW.PrintMore
attribute [local go_sem] qAz qA5
set_option linter.unusedVariables false
set_option linter.unusedSimpArgs false
mutual
def hogsheadlaw0_GreatTexts.l0 : Nat → List ByteArray → Int → Int → Int → Option (Bool)
 | 0, _, _, _, _ => none
 | k + 1, x0, x1, x2, x7 => if x7 < (x0.length : Int) then (hogsheadlaw0_GreatTexts.j1 k x0 x1 x2 x7 (decide ((x0.length : Int) ≤ x1))) else (hogsheadlaw0_GreatTexts.j1 k x0 x1 x2 x7 false)
def hogsheadlaw0_GreatTexts.j1 : Nat → List ByteArray → Int → Int → Int → Bool → Option (Bool)
 | 0, _, _, _, _, _ => none
 | k + 1, x0, x1, x2, x7, x17 => if x17 = true then (if 0 ≤ x7 then (if x7 < (x0.length : Int) then (if ((rdOf ByteArray.empty x0 x7).size : Int) > x2 then (some true) else (hogsheadlaw0_GreatTexts.l0 k x0 x1 x2 (wrap64 (x7 + 1)))) else (none)) else (none)) else (some (decide ((x0.length : Int) > x1)))
end
def hogsheadlaw0_GreatTexts.f (k : Nat) (l0 : List ByteArray) (a1 : Int) (a2 : Int) : Option (Bool) := hogsheadlaw0_GreatTexts.l0 k l0 a1 a2 0
set_option maxHeartbeats 8000000 in
set_option maxRecDepth 100000 in
theorem hogsheadlaw0_GreatTexts.calls (k : Nat) (A0 : Option Addr) (c0 : Nat) (l0 : List ByteArray) (a1 : Int) (a2 : Int) (r : Bool) (w : World) (hr0 : Kd.C Kd.string w A0 l0.length l0) (hc0 : l0.length ≤ c0) (h : hogsheadlaw0_GreatTexts.f k l0 a1 a2 = some r) :
  Calls Tryd.prog 28 #[.slice A0 l0.length c0, .int .i64 a1, .int .i64 a2] w fun e w' => e = .returned (.bool r) ∧ Drawn0 w w' := by
 have HR0 := Aside0.mk hr0
 have HC0 := Aside0.mk hc0
 clear hr0 hc0
 have H : (hogsheadlaw0_GreatTexts.l0 k l0 a1 a2 0) = some r := h
 clear h
 have H' := Aside0.mk H
 clear H
 go_enter Tryd.func28, Tryd.ntmps28
 go_wp2
 go_loopg [7] k (fun kq v7 w' => ∃ (x7_1 : Int), v7 = .int .i64 x7_1 ∧ Aside0 (hogsheadlaw0_GreatTexts.l0 kq l0 a1 a2 x7_1 = some r) ∧ Aside0 (kq ≤ k) ∧ Drawn0 w w')
 case atStart => exact ⟨(0), (by first | rfl | (simp; done) | (simp [*]; done) | exact congrArg Value.bool (nil_ne _) | exact congrArg Value.bool (nil_eq _) | exact congrArg Value.bool (nil_ne' _)), H', ⟨Nat.le_refl _⟩, by repeat (first | exact Drawn0.refl _ | apply Drawn0.step)⟩
 case round =>
  clear H'
  try clear c2
  try clear p2
  obtain ⟨x7_1, rfl, HA, HK1, ⟨m1, rfl⟩⟩ := hrel
  cases gk with
  | zero => exact absurd HA.out (by simp [hogsheadlaw0_GreatTexts.l0])
  | succ k1 =>
   have H := HA.out
   clear HA
   simp only [hogsheadlaw0_GreatTexts.l0] at H
   have HC4 := Aside0.mk H
   clear H
   go_upto_region 2 with (fail)
   go_cut [17] (fun v17 wc => ∃ (kq : Nat) (x17_3 : Bool), v17 = .bool x17_3 ∧ Aside0 (hogsheadlaw0_GreatTexts.j1 kq l0 a1 a2 x7_1 x17_3 = some r) ∧ Aside0 (kq ≤ k1) ∧ Drawn0 w wc)
   case first =>
    have H := HC4.out
    clear HC4
    by_cases c5 : x7_1 < (l0.length : Int)
    ·rw [if_pos c5] at H
     have c5b0 : decide (x7_1 < (l0.length : Int)) = true := decide_eq_true c5
     clear c5
     (first | rw [c5b0] | (simp only [i64_w, i32_w]; rw [c5b0]) | skip)
     have H' := Aside0.mk H
     clear H
     go_wp2
     go_meet
     case rel => exact ⟨_, (decide ((l0.length : Int) ≤ a1)), (by first | rfl | (simp; done) | (simp [*]; done) | exact congrArg Value.bool (nil_ne _) | exact congrArg Value.bool (nil_eq _) | exact congrArg Value.bool (nil_ne' _)), H', ⟨by have := HK1.out; first | omega | exact Nat.le_refl _⟩, by repeat (first | exact Drawn0.refl _ | apply Drawn0.step)⟩
    ·rw [if_neg c5] at H
     have c5b0 : decide (x7_1 < (l0.length : Int)) = false := decide_eq_false c5
     clear c5
     (first | rw [c5b0] | (simp only [i64_w, i32_w]; rw [c5b0]) | skip)
     have H' := Aside0.mk H
     clear H
     go_wp2
     go_meet
     case rel => exact ⟨_, (false), (by first | rfl | (simp; done) | (simp [*]; done) | exact congrArg Value.bool (nil_ne _) | exact congrArg Value.bool (nil_eq _) | exact congrArg Value.bool (nil_ne' _)), H', ⟨by have := HK1.out; first | omega | exact Nat.le_refl _⟩, by repeat (first | exact Drawn0.refl _ | apply Drawn0.step)⟩
   case rest =>
    clear HC4
    try clear c2
    try clear p2
    try clear c5
    try clear c5b0
    try clear p2
    obtain ⟨kq, x17_3, rfl, HA, HJ3, ⟨mc3, rfl⟩⟩ := hcut
    cases kq with
    | zero => exact absurd HA.out (by simp [hogsheadlaw0_GreatTexts.j1])
    | succ kj3 =>
     have H := HA.out
     clear HA
     simp only [hogsheadlaw0_GreatTexts.j1] at H
     by_cases c6 : x17_3 = true
     ·subst c6
      have H1 : (if 0 ≤ x7_1 then (if x7_1 < (l0.length : Int) then (if ((rdOf ByteArray.empty l0 x7_1).size : Int) > a2 then (some true) else (hogsheadlaw0_GreatTexts.l0 kj3 l0 a1 a2 (wrap64 (x7_1 + 1)))) else (none)) else (none)) = some r := by rw [if_pos rfl] at H; exact H
      clear H
      have H := H1
      clear H1
      by_cases c7 : 0 ≤ x7_1
      ·rw [if_pos c7] at H
       have c7b0 : decide (0 ≤ x7_1) = true := decide_eq_true c7
       clear c7
       by_cases c8 : x7_1 < (l0.length : Int)
       ·rw [if_pos c8] at H
        have c8b0 : decide (x7_1 < (l0.length : Int)) = true := decide_eq_true c8
        clear c8
        by_cases c9 : ((rdOf ByteArray.empty l0 x7_1).size : Int) > a2
        ·rw [if_pos c9] at H
         have c9b0 : decide (a2 < ((rdOf ByteArray.empty l0 x7_1).size : Int)) = true := decide_eq_true c9
         clear c9
         obtain rfl := Option.some.inj H
         have p101 : 0 ≤ (x7_1 : Int) := of_decide_eq_true (by first | (with_reducible assumption) | assumption)
         have q101 : x7_1 < (l0.length : Int) := of_decide_eq_true (by first | (with_reducible assumption) | assumption)
         obtain ⟨ad101, e101, hx101_0⟩ := Kd.at_string HR0.out x7_1 p101 q101
         cases e101
         replace p101 := eq_true p101
         replace q101 := eq_true q101
         go_wp2
         go_ret
         exact ⟨by first | rfl | (simp; done) | (simp [*]; done), by repeat (first | exact Drawn0.refl _ | apply Drawn0.step)⟩
        ·rw [if_neg c9] at H
         have c9b0 : decide (a2 < ((rdOf ByteArray.empty l0 x7_1).size : Int)) = false := decide_eq_false c9
         clear c9
         have H' := Aside0.mk H
         clear H
         have p101 : 0 ≤ (x7_1 : Int) := of_decide_eq_true (by first | (with_reducible assumption) | assumption)
         have q101 : x7_1 < (l0.length : Int) := of_decide_eq_true (by first | (with_reducible assumption) | assumption)
         obtain ⟨ad101, e101, hx101_0⟩ := Kd.at_string HR0.out x7_1 p101 q101
         cases e101
         replace p101 := eq_true p101
         replace q101 := eq_true q101
         go_wp2
         go_roundg kj3
         case measure => have := HK1.out; have := HJ3.out; omega
         case rel => exact ⟨(wrap64 (x7_1 + 1)), (by first | rfl | (simp; done) | (simp [*]; done) | exact congrArg Value.bool (nil_ne _) | exact congrArg Value.bool (nil_eq _) | exact congrArg Value.bool (nil_ne' _)), H', ⟨by have := HK1.out; have := HJ3.out; omega⟩, by repeat (first | exact Drawn0.refl _ | apply Drawn0.step)⟩
       ·rw [if_neg c8] at H
        exact absurd H (by simp)
      ·rw [if_neg c7] at H
       exact absurd H (by simp)
     ·replace c6 := Bool.eq_false_iff.mpr c6
      subst c6
      have H1 : (some (decide ((l0.length : Int) > a1))) = some r := by rw [if_neg (show ¬ (false = true) by decide)] at H; exact H
      clear H
      have H := H1
      clear H1
      obtain rfl := Option.some.inj H
      go_wp2
      go_ret
      exact ⟨by first | rfl | (simp; done) | (simp [*]; done), by repeat (first | exact Drawn0.refl _ | apply Drawn0.step)⟩
end Go.Proofs.YtbnoihpooeombaaDoor.P

namespace Go.Proofs.YtbnoihpooeombaaDoor.P
open Go.Proofs.YtbnoihpooeombaaDoor.X
open Go.RowKit Go.Proofs.YtbnoihpooeombaaDoorW.PrintWords Go.Proofs.YtbnoihpooeombaaDoorW.PrintLast Go.Proofs.YtbnoihpooeombaaDoorW.PrintMore
attribute [local go_sem] qAz qA5
set_option linter.unusedVariables false
set_option linter.unusedSimpArgs false
mutual
def hogsheadlaw0_count.j0 : Nat → Int → Int → Bool → Int → Bool → Int → ByteArray → List (S25) → List ByteArray → Option (Int)
 | 0, _, _, _, _, _, _, _, _, _ => none
 | k + 1, x1, x5, x15, x103000, x103001, x103002, x103003, x103004, x103005 => if x15 = true then (some x1) else (hogsheadlaw0_count.l0 k x1 x5 0 x103000 x103001 x103002 x103003 x103004 x103005)
def hogsheadlaw0_count.l0 : Nat → Int → Int → Int → Int → Bool → Int → ByteArray → List (S25) → List ByteArray → Option (Int)
 | 0, _, _, _, _, _, _, _, _, _ => none
 | k + 1, x1, x5, x6, x103000, x103001, x103002, x103003, x103004, x103005 => if x6 < (x103004.length : Int) then (if x5 < x1 then (if 0 ≤ x6 then ((hogsheadlaw0_count.f k ((rd_T25 x103004 x6).f0) ((rd_T25 x103004 x6).f1) ((rd_T25 x103004 x6).f2) ((rd_T25 x103004 x6).f3) ((rd_T25 x103004 x6).f4) ((rd_T25 x103004 x6).f5) (wrap64 (x1 - x5))).bind fun t105 => (hogsheadlaw0_count.l0 k x1 (wrap64 (x5 + t105)) (wrap64 (x6 + 1)) x103000 x103001 x103002 x103003 x103004 x103005)) else (none)) else (some x5)) else (some x5)
def hogsheadlaw0_count.f : Nat → Int → Bool → Int → ByteArray → List (S25) → List ByteArray → Int → Option (Int)
 | 0, _, _, _, _, _, _, _ => none
 | k + 1, a0_0, a0_1, a0_2, a0_3, l0_4, l0_5, a1 => if (a0_3.size : Int) > 100 then (hogsheadlaw0_count.j0 k a1 1 true a0_0 a0_1 a0_2 a0_3 l0_4 l0_5) else ((hogsheadlaw0_GreatTexts.f k l0_5 100 100).bind fun t103 => (hogsheadlaw0_count.j0 k a1 1 t103 a0_0 a0_1 a0_2 a0_3 l0_4 l0_5))
end
set_option maxHeartbeats 8000000 in
set_option maxRecDepth 100000 in
theorem hogsheadlaw0_count.calls (k : Nat) : ∀ (a0_0 : Int) (a0_1 : Bool) (a0_2 : Int) (a0_3 : ByteArray) (A0_4 : Option Addr) (c0_4 : Nat) (l0_4 : List (S25)) (A0_5 : Option Addr) (c0_5 : Nat) (l0_5 : List ByteArray) (a1 : Int) (r : Int) (w : World) (hr0_4 : Kd.C k25 w A0_4 l0_4.length l0_4) (hc0_4 : l0_4.length ≤ c0_4) (hr0_5 : Kd.C Kd.string w A0_5 l0_5.length l0_5) (hc0_5 : l0_5.length ≤ c0_5) (h : hogsheadlaw0_count.f k a0_0 a0_1 a0_2 a0_3 l0_4 l0_5 a1 = some r),
  Calls Tryd.prog 46 #[.agg #[.int .i64 a0_0, .bool a0_1, .int .i64 a0_2, .string a0_3, .slice A0_4 l0_4.length c0_4, .slice A0_5 l0_5.length c0_5], .int .i64 a1] w fun e w' => e = .returned (.int .i64 r) ∧ Below w.heap.size w w' := by
 induction k using Nat.strongRecOn with
 | _ k ih =>
 intro a0_0 a0_1 a0_2 a0_3 A0_4 c0_4 l0_4 A0_5 c0_5 l0_5 a1 r w hr0_4 hc0_4 hr0_5 hc0_5 h
 cases k with
 | zero => exact absurd h (by simp [hogsheadlaw0_count.f])
 | succ k =>
 simp only [hogsheadlaw0_count.f] at h
 have hu25 := Tryd.underlying25
 have HR0_4 := Aside0.mk hr0_4
 have HC0_4 := Aside0.mk hc0_4
 clear hr0_4 hc0_4
 have HR0_5 := Aside0.mk hr0_5
 have HC0_5 := Aside0.mk hc0_5
 clear hr0_5 hc0_5
 have HB := Aside0.mk (Below.refl w.heap.size w)
 have H : (if (a0_3.size : Int) > 100 then (hogsheadlaw0_count.j0 k a1 1 true a0_0 a0_1 a0_2 a0_3 l0_4 l0_5) else ((hogsheadlaw0_GreatTexts.f k l0_5 100 100).bind fun t103 => (hogsheadlaw0_count.j0 k a1 1 t103 a0_0 a0_1 a0_2 a0_3 l0_4 l0_5))) = some r := h
 clear h
 have HC3 := Aside0.mk H
 clear H
 go_enter Tryd.func46, Tryd.ntmps46
 go_upto_region 2 with (first | ((with_reducible refine qAv (N := 2) rfl ?_); refine qAu ?hg (N := 2) ?hd (cs := #[.int .i64 a0_0, .bool a0_1, .int .i64 a0_2, .string a0_3, .slice A0_4 l0_4.length c0_4, .slice A0_5 l0_5.length c0_5]) (t := 25) ?hr ?_; (case hd => rfl); (case hg => rfl); (case hr => first | (go_simp; done) | (go_simp; rfl)); intro gb102 hg w4 hbox hb; have n0_ := Aside0.mk (qAj (by repeat (first | (with_reducible first | exact HB.out | apply qAd | apply qAc | apply qAe) | exact HB.out)) hb); have n1_ := Aside0.mk (hbox); have n2_ := Aside0.mk ((by rw [hg]; exact (qAl (by repeat (first | (with_reducible first | exact HB.out | apply qAd | apply qAc | apply qAe) | exact HB.out))) : w.heap.size ≤ gb102)); have n3_ := Aside0.mk ((by rw [hg]; exact (qAl (by repeat (first | (with_reducible first | exact HB.out | apply qAd | apply qAc | apply qAe) | exact HB.out))) : w.heap.size ≤ gb102)); clear HB; have HB := n0_; have BK102 := n1_; have GW102 := n2_; have GE102 := n3_; clear n0_ n1_ n2_ n3_; clear hb hbox hg))
 (try simp only [Act.put, List.setIfInBounds_toArray, List.set_cons_zero, List.set_cons_succ])
 go_cut [15] (fun v15 wc => ∃ (kq : Nat) (x15_2 : Bool), v15 = .bool x15_2 ∧ Aside0 (hogsheadlaw0_count.j0 kq a1 1 x15_2 a0_0 a0_1 a0_2 a0_3 l0_4 l0_5 = some r) ∧ Aside0 (kq ≤ k) ∧ Aside0 (wc.heap[gb102]? = some (.cells #[.int .i64 a0_0, .bool a0_1, .int .i64 a0_2, .string a0_3, (.slice A0_4 l0_4.length c0_4), (.slice A0_5 l0_5.length c0_5)] 25 (0, 0))) ∧ Aside0 (Below w.heap.size w wc))
 case first =>
  have H := HC3.out
  clear HC3
  by_cases c5 : (a0_3.size : Int) > 100
  ·rw [if_pos c5] at H
   have c5b0 : decide (100 < (a0_3.size : Int)) = true := decide_eq_true c5
   have c5b1 : decide (100 < a0_3.size) = true := decide_eq_true (by omega)
   clear c5
   (first | rw [c5b0] | (simp only [i64_w, i32_w]; rw [c5b0]) | skip)
   have H' := Aside0.mk H
   clear H
   have hcz6_0 : w4.cell? ⟨gb102, 0, none⟩ = some (.int .i64 a0_0) := (qAa BK102.out 0).trans rfl
   have hcz6_1 : w4.cell? ⟨gb102, 1, none⟩ = some (.bool a0_1) := (qAa BK102.out 1).trans rfl
   have hcz6_2 : w4.cell? ⟨gb102, 2, none⟩ = some (.int .i64 a0_2) := (qAa BK102.out 2).trans rfl
   have hcz6_3 : w4.cell? ⟨gb102, 3, none⟩ = some (.string a0_3) := (qAa BK102.out 3).trans rfl
   have hcz6_4 : w4.cell? ⟨gb102, 4, none⟩ = some (.slice A0_4 l0_4.length c0_4) := (qAa BK102.out 4).trans rfl
   have hcz6_5 : w4.cell? ⟨gb102, 5, none⟩ = some (.slice A0_5 l0_5.length c0_5) := (qAa BK102.out 5).trans rfl
   have hfz6_0 := qAb BK102.out 0
   have hfz6_1 := qAb BK102.out 1
   have hfz6_2 := qAb BK102.out 2
   have hfz6_3 := qAb BK102.out 3
   have hfz6_4 := qAb BK102.out 4
   have hfz6_5 := qAb BK102.out 5
   go_wp2
   go_meet
   case rel => exact ⟨_, (true), (by first | rfl | (simp; done) | (simp [*]; done) | exact congrArg Value.bool (nil_ne _) | exact congrArg Value.bool (nil_eq _) | exact congrArg Value.bool (nil_ne' _)), H', ⟨by first | omega | exact Nat.le_refl _⟩, ⟨by (with_reducible repeat (first | refine qAg ?_ _ | refine qAh ?_ | refine blk_alloc ?_ _)); exact BK102.out⟩, ⟨by repeat (first | (with_reducible first | exact HB.out | apply qAd | apply qAc | apply qAe | refine qAf ?_ GE102.out) | exact HB.out)⟩⟩
  ·rw [if_neg c5] at H
   have c5b0 : decide (100 < (a0_3.size : Int)) = false := decide_eq_false c5
   have c5b1 : decide (100 < a0_3.size) = false := decide_eq_false (by omega)
   clear c5
   (first | rw [c5b0] | (simp only [i64_w, i32_w]; rw [c5b0]) | skip)
   replace H := Option.bind_eq_some_iff.mp H
   obtain ⟨t103, A70, H⟩ := H
   replace H : (hogsheadlaw0_count.j0 k a1 1 t103 a0_0 a0_1 a0_2 a0_3 l0_4 l0_5) = some r := H
   have A7 := Aside0.mk A70
   clear A70
   have H' := Aside0.mk H
   clear H
   have hcz8_0 : w4.cell? ⟨gb102, 0, none⟩ = some (.int .i64 a0_0) := (qAa BK102.out 0).trans rfl
   have hcz8_1 : w4.cell? ⟨gb102, 1, none⟩ = some (.bool a0_1) := (qAa BK102.out 1).trans rfl
   have hcz8_2 : w4.cell? ⟨gb102, 2, none⟩ = some (.int .i64 a0_2) := (qAa BK102.out 2).trans rfl
   have hcz8_3 : w4.cell? ⟨gb102, 3, none⟩ = some (.string a0_3) := (qAa BK102.out 3).trans rfl
   have hcz8_4 : w4.cell? ⟨gb102, 4, none⟩ = some (.slice A0_4 l0_4.length c0_4) := (qAa BK102.out 4).trans rfl
   have hcz8_5 : w4.cell? ⟨gb102, 5, none⟩ = some (.slice A0_5 l0_5.length c0_5) := (qAa BK102.out 5).trans rfl
   have hfz8_0 := qAb BK102.out 0
   have hfz8_1 := qAb BK102.out 1
   have hfz8_2 := qAb BK102.out 2
   have hfz8_3 := qAb BK102.out 3
   have hfz8_4 := qAb BK102.out 4
   have hfz8_5 := qAb BK102.out 5
   go_wp2_with (first | (go_at_call 28; (with_reducible refine (hogsheadlaw0_GreatTexts.calls k _ _ l0_5 100 100 t103 _ ?side1 ?side2 A7.out).mono ?_); (case side1 => repeat (first | exact (Kd.C_below HR0_5.out HB.out) | (with_reducible refine Kd.C_alloc ?_ _) | (with_reducible refine Kd.C_drewN ?_ _) | (with_reducible refine Kd.C_drew ?_))); (case side2 => exact HC0_5.out); rintro e w' ⟨rfl, ⟨nd, rfl⟩⟩))
   go_meet
   case rel => exact ⟨_, (t103), (by first | rfl | (simp; done) | (simp [*]; done) | exact congrArg Value.bool (nil_ne _) | exact congrArg Value.bool (nil_eq _) | exact congrArg Value.bool (nil_ne' _)), H', ⟨by first | omega | exact Nat.le_refl _⟩, ⟨by (with_reducible repeat (first | refine qAg ?_ _ | refine qAh ?_ | refine blk_alloc ?_ _)); exact BK102.out⟩, ⟨by repeat (first | (with_reducible first | exact HB.out | apply qAd | apply qAc | apply qAe | refine qAf ?_ GE102.out) | exact HB.out)⟩⟩
 case rest =>
  clear HC3
  try clear p2
  try clear c4
  try clear c5
  try clear c5b0
  try clear c5b1
  try clear hcz6_0
  try clear hcz6_1
  try clear hcz6_2
  try clear hcz6_3
  try clear hcz6_4
  try clear hcz6_5
  try clear hcz8_0
  try clear hcz8_1
  try clear hcz8_2
  try clear hcz8_3
  try clear hcz8_4
  try clear hcz8_5
  try clear hfz6_0
  try clear hfz6_1
  try clear hfz6_2
  try clear hfz6_3
  try clear hfz6_4
  try clear hfz6_5
  try clear hfz8_0
  try clear hfz8_1
  try clear hfz8_2
  try clear hfz8_3
  try clear hfz8_4
  try clear hfz8_5
  obtain ⟨kq, x15_2, rfl, HA, HJ2, BK102, HB⟩ := hcut
  cases kq with
  | zero => exact absurd HA.out (by simp [hogsheadlaw0_count.j0])
  | succ kj2 =>
   have H := HA.out
   clear HA
   simp only [hogsheadlaw0_count.j0] at H
   by_cases c9 : x15_2 = true
   ·subst c9
    have H1 : (some a1) = some r := by rw [if_pos rfl] at H; exact H
    clear H
    have H := H1
    clear H1
    obtain rfl := Option.some.inj H
    go_wp2
    go_ret
    exact ⟨by first | rfl | (simp [qAn, qAm] <;> rfl) | (simp [*, qAn, qAm] <;> rfl), by repeat (first | (with_reducible first | exact HB.out | apply qAd | apply qAc | apply qAe | refine qAf ?_ GE102.out) | exact HB.out)⟩
   ·replace c9 := Bool.eq_false_iff.mpr c9
    subst c9
    have H1 : (hogsheadlaw0_count.l0 kj2 a1 1 0 a0_0 a0_1 a0_2 a0_3 l0_4 l0_5) = some r := by rw [if_neg (show ¬ (false = true) by decide)] at H; exact H
    clear H
    have H := H1
    clear H1
    have H' := Aside0.mk H
    clear H
    go_wp2
    go_loopg [5, 6] kj2 (fun kq v5 v6 w' => ∃ (x5_2 : Int) (x6_2 : Int), v5 = .int .i64 x5_2 ∧ v6 = .int .i64 x6_2 ∧ Aside0 (hogsheadlaw0_count.l0 kq a1 x5_2 x6_2 a0_0 a0_1 a0_2 a0_3 l0_4 l0_5 = some r) ∧ Aside0 (kq ≤ kj2) ∧ Aside0 (w'.heap[gb102]? = some (.cells #[.int .i64 a0_0, .bool a0_1, .int .i64 a0_2, .string a0_3, (.slice A0_4 l0_4.length c0_4), (.slice A0_5 l0_5.length c0_5)] 25 (0, 0))) ∧ Aside0 (Below w.heap.size w w'))
    case atStart => exact ⟨(1), (0), (by first | rfl | (simp; done) | (simp [*]; done) | exact congrArg Value.bool (nil_ne _) | exact congrArg Value.bool (nil_eq _) | exact congrArg Value.bool (nil_ne' _)), (by first | rfl | (simp; done) | (simp [*]; done) | exact congrArg Value.bool (nil_ne _) | exact congrArg Value.bool (nil_eq _) | exact congrArg Value.bool (nil_ne' _)), H', ⟨Nat.le_refl _⟩, ⟨by (with_reducible repeat (first | refine qAg ?_ _ | refine qAh ?_ | refine blk_alloc ?_ _)); exact BK102.out⟩, ⟨by repeat (first | (with_reducible first | exact HB.out | apply qAd | apply qAc | apply qAe | refine qAf ?_ GE102.out) | exact HB.out)⟩⟩
    case round =>
     clear H'
     try clear p2
     try clear c4
     try clear c5
     try clear c5b0
     try clear c5b1
     try clear c9
     try clear hcz6_0
     try clear hcz6_1
     try clear hcz6_2
     try clear hcz6_3
     try clear hcz6_4
     try clear hcz6_5
     try clear hcz8_0
     try clear hcz8_1
     try clear hcz8_2
     try clear hcz8_3
     try clear hcz8_4
     try clear hcz8_5
     try clear hfz6_0
     try clear hfz6_1
     try clear hfz6_2
     try clear hfz6_3
     try clear hfz6_4
     try clear hfz6_5
     try clear hfz8_0
     try clear hfz8_1
     try clear hfz8_2
     try clear hfz8_3
     try clear hfz8_4
     try clear hfz8_5
     try clear p2
     obtain ⟨x5_2, x6_2, rfl, rfl, HA, HK2, BK102, HB⟩ := hrel
     cases gk with
     | zero => exact absurd HA.out (by simp [hogsheadlaw0_count.l0])
     | succ k2 =>
      have H := HA.out
      clear HA
      simp only [hogsheadlaw0_count.l0] at H
      by_cases c10 : x6_2 < (l0_4.length : Int)
      ·rw [if_pos c10] at H
       have c10b0 : decide (x6_2 < (l0_4.length : Int)) = true := decide_eq_true c10
       clear c10
       by_cases c11 : x5_2 < a1
       ·rw [if_pos c11] at H
        have c11b0 : decide (x5_2 < a1) = true := decide_eq_true c11
        clear c11
        by_cases c12 : 0 ≤ x6_2
        ·rw [if_pos c12] at H
         have c12b0 : decide (0 ≤ x6_2) = true := decide_eq_true c12
         clear c12
         replace H := Option.bind_eq_some_iff.mp H
         obtain ⟨t105, A130, H⟩ := H
         replace H : (hogsheadlaw0_count.l0 k2 a1 (wrap64 (x5_2 + t105)) (wrap64 (x6_2 + 1)) a0_0 a0_1 a0_2 a0_3 l0_4 l0_5) = some r := H
         have A13 := Aside0.mk A130
         clear A130
         have H' := Aside0.mk H
         clear H
         have hcz14_0 : wr.cell? ⟨gb102, 0, none⟩ = some (.int .i64 a0_0) := (qAa BK102.out 0).trans rfl
         have hcz14_1 : wr.cell? ⟨gb102, 1, none⟩ = some (.bool a0_1) := (qAa BK102.out 1).trans rfl
         have hcz14_2 : wr.cell? ⟨gb102, 2, none⟩ = some (.int .i64 a0_2) := (qAa BK102.out 2).trans rfl
         have hcz14_3 : wr.cell? ⟨gb102, 3, none⟩ = some (.string a0_3) := (qAa BK102.out 3).trans rfl
         have hcz14_4 : wr.cell? ⟨gb102, 4, none⟩ = some (.slice A0_4 l0_4.length c0_4) := (qAa BK102.out 4).trans rfl
         have hcz14_5 : wr.cell? ⟨gb102, 5, none⟩ = some (.slice A0_5 l0_5.length c0_5) := (qAa BK102.out 5).trans rfl
         have hfz14_0 := qAb BK102.out 0
         have hfz14_1 := qAb BK102.out 1
         have hfz14_2 := qAb BK102.out 2
         have hfz14_3 := qAb BK102.out 3
         have hfz14_4 := qAb BK102.out 4
         have hfz14_5 := qAb BK102.out 5
         have p104 : 0 ≤ (x6_2 : Int) := of_decide_eq_true (by first | (with_reducible assumption) | assumption)
         have q104 : x6_2 < (l0_4.length : Int) := of_decide_eq_true (by first | (with_reducible assumption) | assumption)
         obtain ⟨ad104, A104_4, c104_4, A104_5, c104_5, e104, hx104_0, hx104_1, hx104_2, hx104_3, hx104_4, hx104_5, hl104_4, hi104_4, hl104_5, hi104_5⟩ := at_T25 HR0_4.out x6_2 p104 q104
         cases e104
         replace hx104_0 := (HB.out.cell (World.block_lt_of_cell? w _ hx104_0)).trans hx104_0
         replace hx104_1 := (HB.out.cell (World.block_lt_of_cell? w _ hx104_1)).trans hx104_1
         replace hx104_2 := (HB.out.cell (World.block_lt_of_cell? w _ hx104_2)).trans hx104_2
         replace hx104_3 := (HB.out.cell (World.block_lt_of_cell? w _ hx104_3)).trans hx104_3
         replace hx104_4 := (HB.out.cell (World.block_lt_of_cell? w _ hx104_4)).trans hx104_4
         replace hx104_5 := (HB.out.cell (World.block_lt_of_cell? w _ hx104_5)).trans hx104_5
         have HR104_4 := Aside0.mk hi104_4
         have HC104_4 := Aside0.mk hl104_4
         clear hi104_4 hl104_4
         have HR104_5 := Aside0.mk hi104_5
         have HC104_5 := Aside0.mk hl104_5
         clear hi104_5 hl104_5
         replace p104 := eq_true p104
         replace q104 := eq_true q104
         go_wp2_with (first | ((with_reducible refine qAp (f := 46) rfl ?_); refine goesL_ (some 38) rfl rfl Tryd.func46 (by kernel_rfl) rfl #[.agg #[.int .i64 ((rd_T25 l0_4 x6_2).f0), .bool ((rd_T25 l0_4 x6_2).f1), .int .i64 ((rd_T25 l0_4 x6_2).f2), .string ((rd_T25 l0_4 x6_2).f3), .slice A104_4 ((rd_T25 l0_4 x6_2).f4).length c104_4, .slice A104_5 ((rd_T25 l0_4 x6_2).f5).length c104_5], .int .i64 (wrap64 (a1 - x5_2))] rfl (by (try simp only [List.map_toArray, List.map_cons, List.map_nil]); first | done | rfl | (simp only [List.length_drop, List.length_take]; rfl)) ?_; (with_reducible refine (ih k2 (by have := HJ2.out; have := HK2.out; omega) ((rd_T25 l0_4 x6_2).f0) ((rd_T25 l0_4 x6_2).f1) ((rd_T25 l0_4 x6_2).f2) ((rd_T25 l0_4 x6_2).f3) _ _ ((rd_T25 l0_4 x6_2).f4) _ _ ((rd_T25 l0_4 x6_2).f5) (wrap64 (a1 - x5_2)) t105 _ ?side1 ?side2 ?side3 ?side4 A13.out).mono ?_); (case side1 => repeat (first | exact (Kd.C_below HR104_4.out HB.out) | (with_reducible refine Kd.C_alloc ?_ _) | (with_reducible refine Kd.C_drewN ?_ _) | (with_reducible refine Kd.C_drew ?_))); (case side2 => exact HC104_4.out); (case side3 => repeat (first | exact (Kd.C_below HR104_5.out HB.out) | (with_reducible refine Kd.C_alloc ?_ _) | (with_reducible refine Kd.C_drewN ?_ _) | (with_reducible refine Kd.C_drew ?_))); (case side4 => exact HC104_5.out); rintro e w15 ⟨rfl, hb⟩; refine ⟨_, rfl, ?_⟩; have n0_ := Aside0.mk (qAi (g := gb102) (o := .cells #[.int .i64 a0_0, .bool a0_1, .int .i64 a0_2, .string a0_3, .slice (some ad104) l0_4.length c0_4, .slice A0_5 l0_5.length c0_5] 25 (0, 0)) (by (with_reducible repeat (first | refine qAg ?_ _ | refine qAh ?_ | refine blk_alloc ?_ _)); exact BK102.out) hb); have n1_ := Aside0.mk (qAj (by repeat (first | (with_reducible first | exact HB.out | apply qAd | apply qAc | apply qAe | refine qAf ?_ GE102.out) | exact HB.out)) hb); clear BK102; clear HB; have BK102 := n0_; have HB := n1_; clear n0_ n1_; (try clear hb); (try clear hb2); (try clear hk); (try clear hi)))
         go_roundg k2
         case measure => have := HJ2.out; have := HK2.out; omega
         case rel => exact ⟨(wrap64 (x5_2 + t105)), (wrap64 (x6_2 + 1)), (by first | rfl | (simp; done) | (simp [*]; done) | exact congrArg Value.bool (nil_ne _) | exact congrArg Value.bool (nil_eq _) | exact congrArg Value.bool (nil_ne' _)), (by first | rfl | (simp; done) | (simp [*]; done) | exact congrArg Value.bool (nil_ne _) | exact congrArg Value.bool (nil_eq _) | exact congrArg Value.bool (nil_ne' _)), H', ⟨by have := HJ2.out; have := HK2.out; omega⟩, ⟨by (with_reducible repeat (first | refine qAg ?_ _ | refine qAh ?_ | refine blk_alloc ?_ _)); exact BK102.out⟩, ⟨by repeat (first | (with_reducible first | exact HB.out | apply qAd | apply qAc | apply qAe | refine qAf ?_ GE102.out) | exact HB.out)⟩⟩
        ·rw [if_neg c12] at H
         exact absurd H (by simp)
       ·rw [if_neg c11] at H
        have c11b0 : decide (x5_2 < a1) = false := decide_eq_false c11
        clear c11
        obtain rfl := Option.some.inj H
        have hcz16_0 : wr.cell? ⟨gb102, 0, none⟩ = some (.int .i64 a0_0) := (qAa BK102.out 0).trans rfl
        have hcz16_1 : wr.cell? ⟨gb102, 1, none⟩ = some (.bool a0_1) := (qAa BK102.out 1).trans rfl
        have hcz16_2 : wr.cell? ⟨gb102, 2, none⟩ = some (.int .i64 a0_2) := (qAa BK102.out 2).trans rfl
        have hcz16_3 : wr.cell? ⟨gb102, 3, none⟩ = some (.string a0_3) := (qAa BK102.out 3).trans rfl
        have hcz16_4 : wr.cell? ⟨gb102, 4, none⟩ = some (.slice A0_4 l0_4.length c0_4) := (qAa BK102.out 4).trans rfl
        have hcz16_5 : wr.cell? ⟨gb102, 5, none⟩ = some (.slice A0_5 l0_5.length c0_5) := (qAa BK102.out 5).trans rfl
        have hfz16_0 := qAb BK102.out 0
        have hfz16_1 := qAb BK102.out 1
        have hfz16_2 := qAb BK102.out 2
        have hfz16_3 := qAb BK102.out 3
        have hfz16_4 := qAb BK102.out 4
        have hfz16_5 := qAb BK102.out 5
        go_wp2
        go_ret
        exact ⟨by first | rfl | (simp [qAn, qAm] <;> rfl) | (simp [*, qAn, qAm] <;> rfl), by repeat (first | (with_reducible first | exact HB.out | apply qAd | apply qAc | apply qAe | refine qAf ?_ GE102.out) | exact HB.out)⟩
      ·rw [if_neg c10] at H
       have c10b0 : decide (x6_2 < (l0_4.length : Int)) = false := decide_eq_false c10
       clear c10
       obtain rfl := Option.some.inj H
       have hcz17_0 : wr.cell? ⟨gb102, 0, none⟩ = some (.int .i64 a0_0) := (qAa BK102.out 0).trans rfl
       have hcz17_1 : wr.cell? ⟨gb102, 1, none⟩ = some (.bool a0_1) := (qAa BK102.out 1).trans rfl
       have hcz17_2 : wr.cell? ⟨gb102, 2, none⟩ = some (.int .i64 a0_2) := (qAa BK102.out 2).trans rfl
       have hcz17_3 : wr.cell? ⟨gb102, 3, none⟩ = some (.string a0_3) := (qAa BK102.out 3).trans rfl
       have hcz17_4 : wr.cell? ⟨gb102, 4, none⟩ = some (.slice A0_4 l0_4.length c0_4) := (qAa BK102.out 4).trans rfl
       have hcz17_5 : wr.cell? ⟨gb102, 5, none⟩ = some (.slice A0_5 l0_5.length c0_5) := (qAa BK102.out 5).trans rfl
       have hfz17_0 := qAb BK102.out 0
       have hfz17_1 := qAb BK102.out 1
       have hfz17_2 := qAb BK102.out 2
       have hfz17_3 := qAb BK102.out 3
       have hfz17_4 := qAb BK102.out 4
       have hfz17_5 := qAb BK102.out 5
       go_wp2
       go_ret
       exact ⟨by first | rfl | (simp [qAn, qAm] <;> rfl) | (simp [*, qAn, qAm] <;> rfl), by repeat (first | (with_reducible first | exact HB.out | apply qAd | apply qAc | apply qAe | refine qAf ?_ GE102.out) | exact HB.out)⟩
end Go.Proofs.YtbnoihpooeombaaDoor.P

namespace Go.Proofs.YtbnoihpooeombaaDoor.P
open Go.Proofs.YtbnoihpooeombaaDoor.X
open Go.RowKit Go.Proofs.YtbnoihpooeombaaDoorW.PrintWords Go.Proofs.YtbnoihpooeombaaDoorW.PrintLast Go.Proofs.YtbnoihpooeombaaDoorW.PrintMore
attribute [local go_sem] qAz qA5
set_option linter.unusedVariables false
set_option linter.unusedSimpArgs false
def hogsheadlaw0_GreatValue.f (k : Nat) (a0_0 : Int) (a0_1 : Bool) (a0_2 : Int) (a0_3 : ByteArray) (l0_4 : List (S25)) (l0_5 : List ByteArray) (a1 : Int) : Option (Bool) := (hogsheadlaw0_count.f k a0_0 a0_1 a0_2 a0_3 l0_4 l0_5 (wrap64 (a1 + 1))).bind fun t107 => (some (decide (t107 > a1)))
set_option maxHeartbeats 8000000 in
set_option maxRecDepth 100000 in
theorem hogsheadlaw0_GreatValue.calls (k : Nat) (a0_0 : Int) (a0_1 : Bool) (a0_2 : Int) (a0_3 : ByteArray) (A0_4 : Option Addr) (c0_4 : Nat) (l0_4 : List (S25)) (A0_5 : Option Addr) (c0_5 : Nat) (l0_5 : List ByteArray) (a1 : Int) (r : Bool) (w : World) (hr0_4 : Kd.C k25 w A0_4 l0_4.length l0_4) (hc0_4 : l0_4.length ≤ c0_4) (hr0_5 : Kd.C Kd.string w A0_5 l0_5.length l0_5) (hc0_5 : l0_5.length ≤ c0_5) (h : hogsheadlaw0_GreatValue.f k a0_0 a0_1 a0_2 a0_3 l0_4 l0_5 a1 = some r) :
  Calls Tryd.prog 14 #[.agg #[.int .i64 a0_0, .bool a0_1, .int .i64 a0_2, .string a0_3, .slice A0_4 l0_4.length c0_4, .slice A0_5 l0_5.length c0_5], .int .i64 a1] w fun e w' => e = .returned (.bool r) ∧ Below w.heap.size w w' := by
 have hu25 := Tryd.underlying25
 have HR0_4 := Aside0.mk hr0_4
 have HC0_4 := Aside0.mk hc0_4
 clear hr0_4 hc0_4
 have HR0_5 := Aside0.mk hr0_5
 have HC0_5 := Aside0.mk hc0_5
 clear hr0_5 hc0_5
 have HB := Aside0.mk (Below.refl w.heap.size w)
 have H : ((hogsheadlaw0_count.f k a0_0 a0_1 a0_2 a0_3 l0_4 l0_5 (wrap64 (a1 + 1))).bind fun t107 => (some (decide (t107 > a1)))) = some r := h
 clear h
 replace H := Option.bind_eq_some_iff.mp H
 obtain ⟨t107, A30, H⟩ := H
 replace H : (some (decide (t107 > a1))) = some r := H
 have A3 := Aside0.mk A30
 clear A30
 obtain rfl := Option.some.inj H
 go_enter Tryd.func14, Tryd.ntmps14
 go_wp2_with (first | ((with_reducible refine qAv (N := 2) rfl ?_); refine qAu ?hg (N := 2) ?hd (cs := #[.int .i64 a0_0, .bool a0_1, .int .i64 a0_2, .string a0_3, .slice A0_4 l0_4.length c0_4, .slice A0_5 l0_5.length c0_5]) (t := 25) ?hr ?_; (case hd => rfl); (case hg => rfl); (case hr => first | (go_simp; done) | (go_simp; rfl)); intro gb106 hg w4 hbox hb; have n0_ := Aside0.mk (qAj (by repeat (first | (with_reducible first | exact HB.out | apply qAd | apply qAc | apply qAe) | exact HB.out)) hb); have n1_ := Aside0.mk (hbox); have n2_ := Aside0.mk ((by rw [hg]; exact (qAl (by repeat (first | (with_reducible first | exact HB.out | apply qAd | apply qAc | apply qAe) | exact HB.out))) : w.heap.size ≤ gb106)); have n3_ := Aside0.mk ((by rw [hg]; exact (qAl (by repeat (first | (with_reducible first | exact HB.out | apply qAd | apply qAc | apply qAe) | exact HB.out))) : w.heap.size ≤ gb106)); clear HB; have HB := n0_; have BK106 := n1_; have GW106 := n2_; have GE106 := n3_; clear n0_ n1_ n2_ n3_; clear hb hbox hg; have hcz5_0 : w4.cell? ⟨gb106, 0, none⟩ = some (.int .i64 a0_0) := (qAa BK106.out 0).trans rfl; have hcz5_1 : w4.cell? ⟨gb106, 1, none⟩ = some (.bool a0_1) := (qAa BK106.out 1).trans rfl; have hcz5_2 : w4.cell? ⟨gb106, 2, none⟩ = some (.int .i64 a0_2) := (qAa BK106.out 2).trans rfl; have hcz5_3 : w4.cell? ⟨gb106, 3, none⟩ = some (.string a0_3) := (qAa BK106.out 3).trans rfl; have hcz5_4 : w4.cell? ⟨gb106, 4, none⟩ = some (.slice A0_4 l0_4.length c0_4) := (qAa BK106.out 4).trans rfl; have hcz5_5 : w4.cell? ⟨gb106, 5, none⟩ = some (.slice A0_5 l0_5.length c0_5) := (qAa BK106.out 5).trans rfl; have hfz5_0 := qAb BK106.out 0; have hfz5_1 := qAb BK106.out 1; have hfz5_2 := qAb BK106.out 2; have hfz5_3 := qAb BK106.out 3; have hfz5_4 := qAb BK106.out 4; have hfz5_5 := qAb BK106.out 5) | ((with_reducible refine qAp (f := 46) rfl ?_); refine goesL_ (some 8) rfl rfl Tryd.func46 (by kernel_rfl) rfl #[.agg #[.int .i64 a0_0, .bool a0_1, .int .i64 a0_2, .string a0_3, .slice A0_4 l0_4.length c0_4, .slice A0_5 l0_5.length c0_5], .int .i64 (wrap64 (a1 + 1))] rfl (by (try simp only [List.map_toArray, List.map_cons, List.map_nil]); first | done | rfl | (simp only [List.length_drop, List.length_take]; rfl)) ?_; (with_reducible refine (hogsheadlaw0_count.calls k a0_0 a0_1 a0_2 a0_3 _ _ l0_4 _ _ l0_5 (wrap64 (a1 + 1)) t107 _ ?side1 ?side2 ?side3 ?side4 A3.out).mono ?_); (case side1 => repeat (first | exact (Kd.C_below HR0_4.out HB.out) | (with_reducible refine Kd.C_alloc ?_ _) | (with_reducible refine Kd.C_drewN ?_ _) | (with_reducible refine Kd.C_drew ?_))); (case side2 => exact HC0_4.out); (case side3 => repeat (first | exact (Kd.C_below HR0_5.out HB.out) | (with_reducible refine Kd.C_alloc ?_ _) | (with_reducible refine Kd.C_drewN ?_ _) | (with_reducible refine Kd.C_drew ?_))); (case side4 => exact HC0_5.out); rintro e w6 ⟨rfl, hb⟩; refine ⟨_, rfl, ?_⟩; have n0_ := Aside0.mk (qAi (g := gb106) (o := .cells #[.int .i64 a0_0, .bool a0_1, .int .i64 a0_2, .string a0_3, .slice A0_4 l0_4.length c0_4, .slice A0_5 l0_5.length c0_5] 25 (0, 0)) (by (with_reducible repeat (first | refine qAg ?_ _ | refine qAh ?_ | refine blk_alloc ?_ _)); exact BK106.out) hb); have n1_ := Aside0.mk (qAj (by repeat (first | (with_reducible first | exact HB.out | apply qAd | apply qAc | apply qAe | refine qAf ?_ GE106.out) | exact HB.out)) hb); clear BK106; clear HB; have BK106 := n0_; have HB := n1_; clear n0_ n1_; (try clear hb); (try clear hb2); (try clear hk); (try clear hi)))
 go_ret
 exact ⟨by first | rfl | (simp [qAn, qAm] <;> rfl) | (simp [*, qAn, qAm] <;> rfl), by repeat (first | (with_reducible first | exact HB.out | apply qAd | apply qAc | apply qAe | refine qAf ?_ GE106.out) | exact HB.out)⟩
end Go.Proofs.YtbnoihpooeombaaDoor.P

namespace Go.Proofs.YtbnoihpooeombaaDoor.X
open Go.RowKit Go.Proofs.YtbnoihpooeombaaDoorW.PrintWords Go.Proofs.YtbnoihpooeombaaDoor.P
set_option linter.unusedVariables false
set_option linter.unusedSimpArgs false
theorem qBg {z : Int} {m : Nat} (h : z = (m : Int)) (hm : m ≤ 9223372036854775807) : wrap64 z = (m : Int) := by subst h; unfold wrap64; omega
theorem qCa (l : List S25) (i : Nat) (h : i < l.length) : rd_T25 l (i : Int) = l[i] := by
  simp [rd_T25, List.getD_eq_getElem?_getD, h]
theorem qIw {x y : S25} (h : y ∈ x.f4) : SizeOf.sizeOf y < SizeOf.sizeOf x := by
  have h1 := List.sizeOf_lt_of_mem h
  cases x
  simp only [S25.mk.sizeOf_spec] at *
  omega
def tameD : Nat → S25 → Prop
  | 0, _ => False
  | d + 1, x => x.f3.size ≤ 100 ∧ x.f5.length ≤ 100 ∧ (∀ s ∈ x.f5, s.size ≤ 100) ∧ ∀ y ∈ x.f4, tameD d y
def nodesV : Nat → S25 → Nat
  | 0, _ => 0
  | d + 1, x => 1 + (x.f4.map (nodesV d)).sum
theorem qGh : ∀ d x, tameD d x → tameD (d + 1) x ∧ nodesV (d + 1) x = nodesV d x
  | 0, x, h => h.elim
  | d + 1, x, h => by
    have ih := qGh d
    obtain ⟨h1, h2, h3, h4⟩ := h
    refine ⟨⟨h1, h2, h3, fun y hy => (ih y (h4 y hy)).1⟩, ?_⟩
    rw [nodesV, nodesV]
    congr 2
    exact List.map_congr_left fun y hy => (ih y (h4 y hy)).2
theorem qB7 {d e : Nat} (h : d ≤ e) (x : S25) (ht : tameD d x) : tameD e x ∧ nodesV e x = nodesV d x := by
  induction e with
  | zero => obtain rfl : d = 0 := by omega
            exact ⟨ht, rfl⟩
  | succ e ih =>
    by_cases c : d = e + 1
    · subst c; exact ⟨ht, rfl⟩
    · obtain ⟨h1, h2⟩ := ih (by omega)
      obtain ⟨h3, h4⟩ := qGh e x h1
      exact ⟨h3, h4.trans h2⟩
theorem qEm : ∀ d x, tameD d x → 1 ≤ nodesV d x
  | 0, _, h => h.elim
  | d + 1, x, _ => by rw [nodesV]; omega
theorem sum_ge {f : S25 → Nat} : ∀ (l : List S25), (∀ y ∈ l, 1 ≤ f y) → l.length ≤ (l.map f).sum
  | [], _ => by simp
  | y :: l, h => by
    have := sum_ge l (fun z hz => h z (List.mem_cons_of_mem _ hz))
    have := h y (List.mem_cons_self ..)
    simp only [List.length_cons, List.map_cons, List.sum_cons]
    omega
theorem qG8 {f : S25 → Nat} {y : S25} : ∀ (l : List S25), y ∈ l → f y ≤ (l.map f).sum
  | [], h => by cases h
  | z :: l, h => by
    simp only [List.map_cons, List.sum_cons]
    rcases List.mem_cons.1 h with rfl | h
    · omega
    · have := qG8 (f := f) l h; omega
theorem qF5 {d : Nat} {x y : S25} (h : y ∈ x.f4) : nodesV d y < nodesV (d + 1) x := by
  have := qG8 (f := nodesV d) x.f4 h
  rw [nodesV]; omega
theorem qHo {d : Nat} {x : S25} (h : tameD (d + 1) x) : x.f4.length < nodesV (d + 1) x := by
  have := sum_ge (f := nodesV d) x.f4 (fun y hy => qEm d y (h.2.2.2 y hy))
  rw [nodesV]; omega
theorem qE2 (l : List ByteArray) (m z : Int) (hn : m ≤ 9223372036854775807) : ∀ (d i : Nat), l.length - i = d → i ≤ l.length → (l.length : Int) ≤ m → Ev (fun k => hogsheadlaw0_GreatTexts.l0 k l m z (i : Int)) (decide (∃ s ∈ l.drop i, (s.size : Int) > z)) := by
  intro d
  induction d with
  | zero =>
    intro i hd hi hm
    refine ⟨2, fun k hk => ?_⟩
    obtain ⟨k, rfl⟩ : ∃ m, k = m + 2 := ⟨k - 2, by omega⟩
    simp only [hogsheadlaw0_GreatTexts.l0]
    rw [if_neg (by omega)]
    simp only [hogsheadlaw0_GreatTexts.j1]
    rw [if_neg (by decide), List.drop_eq_nil_of_le (by omega)]
    congr 1
    rw [decide_eq_false (by omega)]
    simp
  | succ d ih =>
    intro i hd hi hm
    have hlt : i < l.length := by omega
    obtain ⟨K, hK⟩ := ih (i + 1) (by omega) (by omega) hm
    refine ⟨K + 2, fun k hk => ?_⟩
    obtain ⟨k, rfl⟩ : ∃ m, k = m + 2 := ⟨k - 2, by omega⟩
    have hK := hK k (by omega)
    simp only at hK
    simp only [hogsheadlaw0_GreatTexts.l0]
    rw [if_pos (by omega)]
    simp only [hogsheadlaw0_GreatTexts.j1]
    rw [if_pos (decide_eq_true hm), if_pos (by omega), if_pos (by omega), qAy l i hlt, wrap_i i l.length hlt (by omega), hK, List.drop_eq_getElem_cons hlt]
    by_cases c : (l[i].size : Int) > z
    · rw [if_pos c]
      congr 1
      exact (decide_eq_true ⟨l[i], List.mem_cons_self .., c⟩).symm
    · rw [if_neg c]
      congr 1
      rw [decide_eq_decide]
      constructor
      · rintro ⟨s, hs, h⟩; exact ⟨s, List.mem_cons_of_mem _ hs, h⟩
      · rintro ⟨s, hs, h⟩
        rcases List.mem_cons.1 hs with rfl | hs
        · exact absurd h c
        · exact ⟨s, hs, h⟩
theorem qE3 (l : List ByteArray) (m z : Int) (hn : m ≤ 9223372036854775807) : Ev (fun k => hogsheadlaw0_GreatTexts.f k l m z) (decide ((l.length : Int) > m ∨ ∃ s ∈ l, (s.size : Int) > z)) := by
  by_cases hm : (l.length : Int) ≤ m
  · have := qE2 l m z hn l.length 0 (by omega) (by omega) hm
    rw [List.drop_zero] at this
    have e : decide ((l.length : Int) > m ∨ ∃ s ∈ l, (s.size : Int) > z) = decide (∃ s ∈ l, (s.size : Int) > z) := by
      rw [decide_eq_decide]
      exact ⟨fun h => h.elim (fun h => absurd h (by omega)) id, .inr⟩
    rw [e]
    exact this
  · refine ⟨2, fun k hk => ?_⟩
    obtain ⟨k, rfl⟩ : ∃ m, k = m + 2 := ⟨k - 2, by omega⟩
    show hogsheadlaw0_GreatTexts.l0 _ l m z 0 = _
    simp only [hogsheadlaw0_GreatTexts.l0]
    have e : decide ((l.length : Int) > m ∨ ∃ s ∈ l, (s.size : Int) > z) = true := decide_eq_true (.inl (by omega))
    rw [e]
    split
    · simp only [hogsheadlaw0_GreatTexts.j1]
      rw [if_neg (by rw [decide_eq_true_eq]; exact hm), decide_eq_true (by omega)]
    · simp only [hogsheadlaw0_GreatTexts.j1]
      rw [if_neg (by decide), decide_eq_true (by omega)]
def qIb (x : S25) (most : Nat) (r : Nat) : Prop := 1 ≤ r ∧ r ≤ most ∧ (r < most → ∃ d, d ≤ r ∧ tameD d x ∧ nodesV d x = r)
theorem qIu (x : S25) (most : Nat) (h2 : most ≤ 100000) (hc : ∀ y ∈ x.f4, ∀ m : Nat, 1 ≤ m → m ≤ 100000 → ∃ r : Nat, Ev (fun k => hogsheadlaw0_count.f k y.f0 y.f1 y.f2 y.f3 y.f4 y.f5 (m : Int)) (r : Int) ∧ qIb y m r) :
    ∀ (j i n : Nat), most - n ≤ j → 1 ≤ n → n ≤ most → i < n → i ≤ x.f4.length → ∃ r : Nat, Ev (fun k => hogsheadlaw0_count.l0 k (most : Int) (n : Int) (i : Int) x.f0 x.f1 x.f2 x.f3 x.f4 x.f5) (r : Int) ∧ n ≤ r ∧ r ≤ most ∧ (r < most → ∃ d, d ≤ r - n ∧ (∀ y ∈ x.f4.drop i, tameD d y) ∧ r = n + ((x.f4.drop i).map (nodesV d)).sum) := by
  intro j
  induction j with
  | zero =>
    intro i n hj h1 hn hi hl
    refine ⟨n, ⟨1, fun k hk => ?_⟩, Nat.le_refl _, hn, fun h => by omega⟩
    obtain ⟨k, rfl⟩ : ∃ m, k = m + 1 := ⟨k - 1, by omega⟩
    simp only [hogsheadlaw0_count.l0]
    by_cases c : (i : Int) < (x.f4.length : Int)
    · rw [if_pos c, if_neg (by omega)]
    · rw [if_neg c]
  | succ j ih =>
    intro i n hj h1 hn hi hl
    by_cases c : i < x.f4.length
    · by_cases c2 : n < most
      · obtain ⟨cc, ⟨K1, hK1⟩, hc1, hc2, hc3⟩ := hc x.f4[i] (List.getElem_mem c) (most - n) (by omega) (by omega)
        obtain ⟨r, ⟨K2, hK2⟩, hr1, hr2, hr3⟩ := ih (i + 1) (n + cc) (by omega) (by omega) (by omega) (by omega) (by omega)
        have HC3 := Aside0.mk hc3
        have HR3 := Aside0.mk hr3
        clear hc3 hr3
        refine ⟨r, ⟨K1 + K2 + 1, fun k hk => ?_⟩, by omega, hr2, fun h => ?_⟩
        · obtain ⟨k, rfl⟩ : ∃ m, k = m + 1 := ⟨k - 1, by omega⟩
          have hK1 := hK1 k (by omega)
          have hK2 := hK2 k (by omega)
          simp only at hK1 hK2
          have E1 : Aside0 (wrap64 ((most : Int) - (n : Int)) = ((most - n : Nat) : Int)) := ⟨qBg (by omega) (by omega)⟩
          have E2 : Aside0 (wrap64 ((n : Int) + (cc : Int)) = ((n + cc : Nat) : Int)) := ⟨qBg (by omega) (by omega)⟩
          have E3 : Aside0 (wrap64 ((i : Int) + 1) = ((i + 1 : Nat) : Int)) := ⟨qBg (by omega) (by omega)⟩
          simp only [hogsheadlaw0_count.l0]
          rw [if_pos (by omega), if_pos (by omega), if_pos (by omega), qCa x.f4 i c, E1.out, hK1]
          simp only [Option.bind_some]
          rw [E2.out, E3.out]
          exact hK2
        · obtain ⟨d1, hd1, ht1, hn1⟩ := HC3.out (by omega)
          obtain ⟨d2, hd2, ht2, hn2⟩ := HR3.out h
          refine ⟨max d1 d2, by omega, fun y hy => ?_, ?_⟩
          · rw [List.drop_eq_getElem_cons c] at hy
            rcases List.mem_cons.1 hy with rfl | hy
            · exact (qB7 (Nat.le_max_left _ _) _ ht1).1
            · exact (qB7 (Nat.le_max_right _ _) _ (ht2 y hy)).1
          · rw [List.drop_eq_getElem_cons c, List.map_cons, List.sum_cons, (qB7 (Nat.le_max_left d1 d2) _ ht1).2, hn1]
            have e : (x.f4.drop (i + 1)).map (nodesV (max d1 d2)) = (x.f4.drop (i + 1)).map (nodesV d2) := List.map_congr_left fun y hy => (qB7 (Nat.le_max_right d1 d2) _ (ht2 y hy)).2
            rw [e]
            omega
      · refine ⟨n, ⟨1, fun k hk => ?_⟩, Nat.le_refl _, hn, fun h => by omega⟩
        obtain ⟨k, rfl⟩ : ∃ m, k = m + 1 := ⟨k - 1, by omega⟩
        simp only [hogsheadlaw0_count.l0]
        rw [if_pos (by omega), if_neg (by omega)]
    · refine ⟨n, ⟨1, fun k hk => ?_⟩, Nat.le_refl _, hn, fun h => ⟨0, by omega, ?_, ?_⟩⟩
      · obtain ⟨k, rfl⟩ : ∃ m, k = m + 1 := ⟨k - 1, by omega⟩
        simp only [hogsheadlaw0_count.l0]
        rw [if_neg (by omega)]
      · rw [List.drop_eq_nil_of_le (by omega)]; intro y hy; cases hy
      · rw [List.drop_eq_nil_of_le (by omega)]; simp
theorem qIv : ∀ (n : Nat) (x : S25), SizeOf.sizeOf x < n → ∀ most : Nat, 1 ≤ most → most ≤ 100000 →
    ∃ r : Nat, Ev (fun k => hogsheadlaw0_count.f k x.f0 x.f1 x.f2 x.f3 x.f4 x.f5 (most : Int)) (r : Int) ∧ qIb x most r := by
  intro n
  induction n with
  | zero => intro x h; omega
  | succ n ih =>
    intro x hx most h1 h2
    obtain ⟨K1, hg⟩ := qE3 x.f5 100 100 (by omega)
    by_cases c : ((x.f3.size : Int) > 100) ∨ ((x.f5.length : Int) > 100 ∨ ∃ s ∈ x.f5, (s.size : Int) > 100)
    · refine ⟨most, ⟨K1 + 2, fun k hk => ?_⟩, h1, Nat.le_refl _, fun h => by omega⟩
      obtain ⟨k, rfl⟩ : ∃ m, k = m + 2 := ⟨k - 2, by omega⟩
      have hg := hg (k + 1) (by omega)
      simp only at hg
      simp only [hogsheadlaw0_count.f]
      by_cases c1 : (x.f3.size : Int) > 100
      · rw [if_pos c1]
        simp only [hogsheadlaw0_count.j0]
        rw [if_pos trivial]
      · rw [if_neg c1, hg, decide_eq_true (c.resolve_left c1)]
        simp only [Option.bind_some, hogsheadlaw0_count.j0]
        rw [if_pos trivial]
    · obtain ⟨r, ⟨K2, hK2⟩, hr1, hr2, hr3⟩ := qIu x most h2 (fun y hy m hm1 hm2 => ih y (by have := qIw hy; omega) m hm1 hm2) most 0 1 (by omega) (by omega) h1 (by omega) (by omega)
      refine ⟨r, ⟨K1 + K2 + 2, fun k hk => ?_⟩, hr1, hr2, fun h => ?_⟩
      · obtain ⟨k, rfl⟩ : ∃ m, k = m + 2 := ⟨k - 2, by omega⟩
        have hg := hg (k + 1) (by omega)
        have hK2 := hK2 k (by omega)
        simp only at hg hK2
        simp only [hogsheadlaw0_count.f]
        rw [if_neg (fun h => c (.inl h)), hg, decide_eq_false (fun h => c (.inr h))]
        simp only [Option.bind_some, hogsheadlaw0_count.j0]
        rw [if_neg (by decide)]
        exact hK2
      · obtain ⟨d, hd, ht, hn⟩ := hr3 h
        rw [List.drop_zero] at ht hn
        refine ⟨d + 1, by omega, ⟨?_, ?_, ?_, ht⟩, ?_⟩
        · have h' : ¬ ((x.f3.size : Int) > 100) := fun h => c (.inl h)
          clear c; omega
        · have h' : ¬ ((x.f5.length : Int) > 100) := fun h => c (.inr (.inl h))
          clear c; omega
        · intro s hs
          have h' : ¬ ((s.size : Int) > 100) := fun h => c (.inr (.inr ⟨s, hs, h⟩))
          clear c; omega
        · rw [nodesV]; omega
def Small (most : Nat) (x : S25) : Prop := tameD most x ∧ nodesV most x ≤ most
theorem qGp (x : S25) (most : Nat) (hm : most ≤ 90000) : ∃ b, Ev (fun k => hogsheadlaw0_GreatValue.f k x.f0 x.f1 x.f2 x.f3 x.f4 x.f5 (most : Int)) b ∧ (b = false → Small most x) := by
  obtain ⟨r, ⟨K, hK⟩, h1, h2, h3⟩ := qIv (SizeOf.sizeOf x + 1) x (by omega) (most + 1) (by omega) (by omega)
  refine ⟨decide ((r : Int) > (most : Int)), ⟨K, fun k hk => ?_⟩, fun h => ?_⟩
  · have hK := hK k hk
    simp only at hK
    have e : wrap64 ((most : Int) + 1) = ((most + 1 : Nat) : Int) := qBg (by omega) (by omega)
    show hogsheadlaw0_GreatValue.f k _ _ _ _ _ _ _ = _
    unfold hogsheadlaw0_GreatValue.f
    rw [e, hK]
    rfl
  · have h := of_decide_eq_false h
    obtain ⟨d, hd, ht, hn⟩ := h3 (by omega)
    obtain ⟨h4, h5⟩ := qB7 (show d ≤ most by omega) x ht
    exact ⟨h4, by omega⟩
end Go.Proofs.YtbnoihpooeombaaDoor.X

namespace Go.Proofs.YtbnoihpooeombaaDoor.X
open Go.RowKit Go.Proofs.YtbnoihpooeombaaDoorW.PrintWords Go.Proofs.YtbnoihpooeombaaDoor.P
set_option linter.unusedVariables false
set_option linter.unusedSimpArgs false
def goodV : Nat → S25 → Bool
  | 0, _ => false
  | d + 1, x => qBh x && x.f4.all (goodV d)
theorem qGm (f : S25 → Nat → Nat × Bool) (g : S25 → Bool) (m : S25 → Nat) (hf : ∀ x n, n ≤ 4000 → ((f x n).2 = true ↔ g x = true ∧ n + m x ≤ 4000) ∧ ((f x n).2 = true → (f x n).1 = n + m x)) :
    ∀ l n, n ≤ 4000 → ((mayL f l n).2 = true ↔ l.all g = true ∧ n + (l.map m).sum ≤ 4000) ∧ ((mayL f l n).2 = true → (mayL f l n).1 = n + (l.map m).sum)
  | [], n, hn => by simp [mayL, hn]
  | x :: l, n, hn => by
    obtain ⟨h1, h2⟩ := hf x n hn
    unfold mayL
    simp only [List.all_cons, List.map_cons, List.sum_cons, Bool.and_eq_true]
    by_cases c : (f x n).2 = true
    · rw [if_pos c, h2 c]
      have hc := h1.1 c
      obtain ⟨h3, h4⟩ := qGm f g m hf l (n + m x) hc.2
      constructor
      · rw [h3]
        constructor
        · rintro ⟨a, b⟩; exact ⟨⟨hc.1, a⟩, by omega⟩
        · rintro ⟨⟨a, a2⟩, b⟩; exact ⟨a2, by omega⟩
      · intro h; rw [h4 h]; omega
    · rw [if_neg c]
      constructor
      · constructor
        · intro h; cases h
        · rintro ⟨⟨a, a2⟩, b⟩; exact absurd (h1.2 ⟨a, by omega⟩) c
      · intro h; cases h
theorem qGl : ∀ d x n, n ≤ 4000 → ((mayV d x n).2 = true ↔ goodV d x = true ∧ n + nodesV d x ≤ 4000) ∧ ((mayV d x n).2 = true → (mayV d x n).1 = n + nodesV d x)
  | 0, x, n, hn => by simp [mayV, goodV]
  | d + 1, x, n, hn => by
    unfold mayV
    rw [goodV, nodesV]
    by_cases c : n + 1 > 4000
    · rw [if_pos c]
      constructor
      · constructor
        · intro h; cases h
        · rintro ⟨_, b⟩; omega
      · intro h; cases h
    · rw [if_neg c]
      by_cases c2 : qBh x = true
      · rw [if_pos c2, c2, Bool.true_and]
        obtain ⟨h1, h2⟩ := qGm (mayV d) (goodV d) (nodesV d) (qGl d) x.f4 (n + 1) (by omega)
        exact ⟨h1.trans ⟨fun h => ⟨h.1, by omega⟩, fun h => ⟨h.1, by omega⟩⟩, fun h => by rw [h2 h]; omega⟩
      · rw [if_neg c2, eq_false_of_ne_true c2, Bool.false_and]
        constructor
        · constructor
          · intro h; cases h
          · rintro ⟨h, _⟩; cases h
        · intro h; cases h
theorem qEx : ∀ d x, goodV d x = true → goodV (d + 1) x = true ∧ nodesV (d + 1) x = nodesV d x
  | 0, x, h => by simp [goodV] at h
  | d + 1, x, h => by
    rw [goodV, Bool.and_eq_true, List.all_eq_true] at h
    refine ⟨?_, ?_⟩
    · rw [goodV, Bool.and_eq_true, List.all_eq_true]
      exact ⟨h.1, fun y hy => (qEx d y (h.2 y hy)).1⟩
    · rw [nodesV, nodesV]
      congr 2
      exact List.map_congr_left fun y hy => (qEx d y (h.2 y hy)).2
theorem qGw {d e : Nat} (h : d ≤ e) (x : S25) (hg : goodV d x = true) : goodV e x = true ∧ nodesV e x = nodesV d x := by
  induction e with
  | zero => obtain rfl : d = 0 := by omega
            exact ⟨hg, rfl⟩
  | succ e ih =>
    by_cases c : d = e + 1
    · subst c; exact ⟨hg, rfl⟩
    · obtain ⟨h1, h2⟩ := ih (by omega)
      obtain ⟨h3, h4⟩ := qEx e x h1
      exact ⟨h3, h4.trans h2⟩
theorem qEl {d D : Nat} (x : S25) (hg : goodV d x = true) (ht : tameD D x) : nodesV d x = nodesV D x := by
  rw [← (qGw (Nat.le_max_left d D) x hg).2, (qB7 (Nat.le_max_right d D) x ht).2]
def T (D n : Nat) (x : S25) : Prop := tameD D x ∧ nodesV D x ≤ n
theorem T.child {D n : Nat} {x y : S25} (h : T (D + 1) n x) (hy : y ∈ x.f4) : T D n y := ⟨h.1.2.2.2 y hy, by have := qF5 (d := D) hy; have := h.2; omega⟩
theorem T.len {D n : Nat} {x : S25} (h : T D n x) : x.f4.length ≤ n ∧ x.f5.length ≤ 100 := by
  cases D with
  | zero => exact h.1.elim
  | succ D => exact ⟨by have := qHo h.1; have := h.2; omega, h.1.2.1⟩
theorem qCn (D : Nat) (x : S25) (h : T D 4000 x) : (mayV 16 x 0).2 = goodV 16 x := by
  have h1 := (qGl 16 x 0 (by omega)).1
  rw [Bool.eq_iff_iff, h1]
  exact ⟨fun h => h.1, fun hg => ⟨hg, by rw [qEl x hg h.1]; have := h.2; omega⟩⟩
theorem qF0 : ∀ (d D : Nat) (x : S25), T D 4000 x → d ≤ 100 → ∃ r : Nat, Ev (fun k => hogsheadref15_Count.f k x.f0 x.f1 x.f2 x.f3 x.f4 x.f5 (d : Int)) (r : Int) ∧ 1 ≤ r ∧ r ≤ nodesV D x := by
  intro d
  induction d with
  | zero =>
    intro D x hT hd
    refine ⟨1, ⟨2, fun k hk => ?_⟩, Nat.le_refl _, qEm D x hT.1⟩
    obtain ⟨k, rfl⟩ : ∃ m, k = m + 2 := ⟨k - 2, by omega⟩
    simp only [hogsheadref15_Count.f, hogsheadref15_Count.l0]
    have hm : mn 1 4001 = 1 := by decide
    split
    · rw [if_pos (by omega), if_neg (by omega), hm]; rfl
    · rw [hm]; rfl
  | succ d ih =>
    intro D x hT hd
    cases D with
    | zero => exact hT.1.elim
    | succ D =>
      have hlen := hT.len.1
      have hloop : ∀ (j i n : Nat), x.f4.length - i = j → i ≤ x.f4.length → 1 ≤ n → n + ((x.f4.drop i).map (nodesV D)).sum ≤ 4000 → ∃ r : Nat, Ev (fun k => hogsheadref15_Count.l0 k ((d + 1 : Nat) : Int) (n : Int) (i : Int) x.f0 x.f1 x.f2 x.f3 x.f4 x.f5) (r : Int) ∧ 1 ≤ r ∧ r ≤ n + ((x.f4.drop i).map (nodesV D)).sum := by
        intro j
        induction j with
        | zero =>
          intro i n hj hi hn hs
          refine ⟨n, ⟨1, fun k hk => ?_⟩, hn, by omega⟩
          obtain ⟨k, rfl⟩ : ∃ m, k = m + 1 := ⟨k - 1, by omega⟩
          simp only [hogsheadref15_Count.l0]
          rw [if_neg (by omega)]
          congr 1
          unfold mn
          rw [if_neg (by omega)]
        | succ j ihj =>
          intro i n hj hi hn hs
          have hlt : i < x.f4.length := by omega
          obtain ⟨c, ⟨K1, hK1⟩, hc1, hc2⟩ := ih D x.f4[i] (hT.child (List.getElem_mem hlt)) (by omega)
          rw [List.drop_eq_getElem_cons hlt, List.map_cons, List.sum_cons] at hs ⊢
          obtain ⟨r, ⟨K2, hK2⟩, hr1, hr2⟩ := ihj (i + 1) (n + c) (by omega) (by omega) (by omega) (by omega)
          refine ⟨r, ⟨K1 + K2 + 1, fun k hk => ?_⟩, hr1, by omega⟩
          obtain ⟨k, rfl⟩ : ∃ m, k = m + 1 := ⟨k - 1, by omega⟩
          have hK1 := hK1 k (by omega)
          have hK2 := hK2 k (by omega)
          simp only at hK1 hK2
          have E1 : Aside0 (wrap64 (((d + 1 : Nat) : Int) - 1) = (d : Int)) := ⟨qBg (by omega) (by omega)⟩
          have E2 : Aside0 (wrap64 ((n : Int) + (c : Int)) = ((n + c : Nat) : Int)) := ⟨qBg (by omega) (by omega)⟩
          have E3 : Aside0 (wrap64 ((i : Int) + 1) = ((i + 1 : Nat) : Int)) := ⟨qBg (by omega) (by omega)⟩
          simp only [hogsheadref15_Count.l0]
          rw [if_pos (by omega), if_pos (by omega), if_pos (by omega), if_pos (by omega), qCa x.f4 i hlt, E1.out, hK1]
          simp only [Option.bind_some]
          rw [E2.out, E3.out]
          exact hK2
      have hnode : 1 + (x.f4.map (nodesV D)).sum ≤ 4000 := hT.2
      obtain ⟨r, ⟨K, hK⟩, h1, h2⟩ := hloop x.f4.length 0 1 (by omega) (by omega) (by omega) (by rw [List.drop_zero]; exact hnode)
      rw [List.drop_zero] at h2
      refine ⟨r, ⟨K + 1, fun k hk => ?_⟩, h1, h2⟩
      obtain ⟨k, rfl⟩ : ∃ m, k = m + 1 := ⟨k - 1, by omega⟩
      simp only [hogsheadref15_Count.f]
      exact hK k (by omega)
def plainB (x : S25) : Bool := (x.f0 == 1 || !x.f1) && (x.f0 == 2 || x.f2 == 0) && (x.f0 == 3 || x.f3.size == 0) && (x.f0 == 4 || x.f0 == 5 || x.f4.isEmpty) && (x.f0 == 5 || x.f5.isEmpty)
theorem qIi (x : S25) : Ev (fun k => hogsheadref15_plain.f k x.f0 x.f1 x.f2 x.f3 x.f4 x.f5) (plainB x) := by
  refine ⟨1, fun k hk => ?_⟩
  obtain ⟨k, rfl⟩ : ∃ m, k = m + 1 := ⟨k - 1, by omega⟩
  have e3 : (x.f3.toList != ([] : List UInt8)) = !(x.f3.size == 0) := by
    rw [Bool.eq_iff_iff, bne_iff_ne, Bool.not_eq_true', beq_eq_false_iff_ne]
    exact not_congr (qCk x.f3)
  have e4 : x.f4.isEmpty = decide ((x.f4.length : Int) ≤ 0) := by cases x.f4 with
    | nil => rfl
    | cons a l => symm; simp only [List.isEmpty_cons]; exact decide_eq_false (by simp only [List.length_cons]; omega)
  have e5 : x.f5.isEmpty = ((x.f5.length : Int) == 0) := by cases x.f5 with
    | nil => rfl
    | cons a l => symm; simp only [List.isEmpty_cons]; exact beq_eq_false_iff_ne.2 (by simp only [List.length_cons]; omega)
  show hogsheadref15_plain.f _ x.f0 x.f1 x.f2 x.f3 x.f4 x.f5 = _
  unfold hogsheadref15_plain.f plainB
  rw [e3, e4, e5]
  simp only [hogsheadref15_plain.j0]
  have hk : x.f0 = 1 ∨ x.f0 = 2 ∨ x.f0 = 3 ∨ x.f0 = 4 ∨ x.f0 = 5 ∨ (x.f0 ≠ 1 ∧ x.f0 ≠ 2 ∧ x.f0 ≠ 3 ∧ x.f0 ≠ 4 ∧ x.f0 ≠ 5) := by omega
  generalize ((x.f5.length : Int) == 0) = b5
  generalize (x.f3.size == 0) = b3
  generalize (x.f4.length : Int) = n4
  generalize x.f1 = b1
  rcases hk with c | c | c | c | c | ⟨c1, c2, c3, c4, c5⟩ <;> cases b1 <;> cases b3 <;> cases b5 <;> by_cases c6 : x.f2 = 0 <;> by_cases c7 : n4 ≤ 0 <;> first | (simp [*]; done) | (simp [*, Int.not_le.1 c7, beq_false_of_ne c4, beq_false_of_ne c5]; done) | (simp [*]; omega)
theorem qDl (x : S25) : qBh x = (plainB x && (decide (0 ≤ x.f0) && (decide (x.f0 ≤ 5) && (decide (-9007199254740992 ≤ x.f2) && (decide (x.f2 ≤ 9007199254740992) && ((x.f0 != 5 || x.f5.length == x.f4.length) && qA3 x.f5)))))) := by
  have hr : x.f5.isEmpty = true → qA3 x.f5 = true := by
    intro h
    rw [List.isEmpty_iff] at h
    rw [h]; rfl
  have hk : x.f0 = 0 ∨ x.f0 = 1 ∨ x.f0 = 2 ∨ x.f0 = 3 ∨ x.f0 = 4 ∨ x.f0 = 5 ∨ (x.f0 < 0 ∨ 5 < x.f0) := by omega
  unfold qBh plainB
  generalize (x.f5.length == x.f4.length) = bl at *
  generalize qA3 x.f5 = r at *
  generalize x.f4.isEmpty = e4 at *
  generalize x.f5.isEmpty = e5 at *
  generalize (x.f3.size == 0) = b3
  generalize x.f1 = b1
  rcases hk with c | c | c | c | c | c | c
  · rw [c]; cases b1 <;> cases b3 <;> cases e4 <;> cases e5 <;> cases r <;> by_cases c6 : x.f2 = 0 <;> simp_all
  · rw [c]; cases b1 <;> cases b3 <;> cases e4 <;> cases e5 <;> cases r <;> by_cases c6 : x.f2 = 0 <;> simp_all
  · rw [c]; cases b1 <;> cases b3 <;> cases e4 <;> cases e5 <;> cases r <;> simp_all
  · rw [c]; cases b1 <;> cases b3 <;> cases e4 <;> cases e5 <;> cases r <;> by_cases c6 : x.f2 = 0 <;> simp_all
  · rw [c]; cases b1 <;> cases b3 <;> cases e4 <;> cases e5 <;> cases r <;> by_cases c6 : x.f2 = 0 <;> simp_all
  · rw [c]; cases b1 <;> cases b3 <;> cases e4 <;> cases e5 <;> cases r <;> by_cases c6 : x.f2 = 0 <;> simp_all [beq_false_of_ne]
  · have hf : decide (0 ≤ x.f0) = false ∨ decide (x.f0 ≤ 5) = false := by
      rcases c with c | c
      · exact .inl (decide_eq_false (by omega))
      · exact .inr (decide_eq_false (by omega))
    rw [if_neg (by omega), if_neg (by omega), if_neg (by omega), if_neg (by omega), Bool.and_false]
    rcases hf with h | h <;> simp [h]
theorem qHj (x : S25) (d : Nat) (g : S25 → Bool) (hn : x.f4.length ≤ 100000) (hd : d ≤ 100) (hc : ∀ y ∈ x.f4, Ev (fun k => hogsheadref15_may.f k y.f0 y.f1 y.f2 y.f3 y.f4 y.f5 (d : Int)) (g y)) :
    ∀ (j i : Nat), x.f4.length - i = j → i ≤ x.f4.length → Ev (fun k => hogsheadref15_may.l1 k ((d + 1 : Nat) : Int) (i : Int) x.f0 x.f1 x.f2 x.f3 x.f4 x.f5) ((x.f4.drop i).all g) := by
  intro j
  induction j with
  | zero =>
    intro i hj hi
    refine ⟨1, fun k hk => ?_⟩
    obtain ⟨k, rfl⟩ : ∃ m, k = m + 1 := ⟨k - 1, by omega⟩
    simp only [hogsheadref15_may.l1]
    rw [if_neg (by omega), List.drop_eq_nil_of_le (by omega)]
    rfl
  | succ j ih =>
    intro i hj hi
    have hlt : i < x.f4.length := by omega
    obtain ⟨K1, hK1⟩ := hc x.f4[i] (List.getElem_mem hlt)
    obtain ⟨K2, hK2⟩ := ih (i + 1) (by omega) (by omega)
    refine ⟨K1 + K2 + 1, fun k hk => ?_⟩
    obtain ⟨k, rfl⟩ : ∃ m, k = m + 1 := ⟨k - 1, by omega⟩
    have hK1 := hK1 k (by omega)
    have hK2 := hK2 k (by omega)
    simp only at hK1 hK2
    have E1 : Aside0 (wrap64 (((d + 1 : Nat) : Int) - 1) = (d : Int)) := ⟨qBg (by omega) (by omega)⟩
    have E3 : Aside0 (wrap64 ((i : Int) + 1) = ((i + 1 : Nat) : Int)) := ⟨qBg (by omega) (by omega)⟩
    simp only [hogsheadref15_may.l1]
    rw [if_pos (by omega), if_pos (by omega), qCa x.f4 i hlt, E1.out, hK1, E3.out, hK2, List.drop_eq_getElem_cons hlt, List.all_cons]
    simp only [Option.bind_some]
    cases g x.f4[i]
    · rw [if_neg (by decide)]; rfl
    · rw [if_pos rfl]; rfl
theorem qHk (x : S25) (d : Nat) (g : S25 → Bool) (hn : x.f4.length ≤ 100000) (hn5 : x.f5.length ≤ 100000) (hd : d ≤ 100) (hc : ∀ y ∈ x.f4, Ev (fun k => hogsheadref15_may.f k y.f0 y.f1 y.f2 y.f3 y.f4 y.f5 (d : Int)) (g y)) :
    ∀ (j i : Nat), x.f5.length - i = j → 1 ≤ i → Ev (fun k => hogsheadref15_may.l0 k ((d + 1 : Nat) : Int) (i : Int) x.f0 x.f1 x.f2 x.f3 x.f4 x.f5) (qA3 (x.f5.drop (i - 1)) && x.f4.all g) := by
  obtain ⟨K0, hK0⟩ := qHj x d g hn hd hc x.f4.length 0 (by omega) (by omega)
  rw [List.drop_zero] at hK0
  intro j
  induction j with
  | zero =>
    intro i hj hi
    refine ⟨K0 + 1, fun k hk => ?_⟩
    obtain ⟨k, rfl⟩ : ∃ m, k = m + 1 := ⟨k - 1, by omega⟩
    have hK0 := hK0 k (by omega)
    simp only at hK0
    simp only [hogsheadref15_may.l0]
    rw [if_neg (by omega)]
    have : (x.f5.drop (i - 1)).length ≤ 1 := by rw [List.length_drop]; omega
    generalize x.f5.drop (i - 1) = m at *
    have hm : qA3 m = true := by
      match m, this with
      | [], _ => rfl
      | [a], _ => rfl
    rw [hm, Bool.true_and]
    exact hK0
  | succ j ih =>
    intro i hj hi
    have hlt : i < x.f5.length := by omega
    have hlt2 : i - 1 < x.f5.length := by omega
    obtain ⟨K, hK⟩ := ih (i + 1) (by omega) (by omega)
    refine ⟨K + 1, fun k hk => ?_⟩
    obtain ⟨k, rfl⟩ : ∃ m, k = m + 1 := ⟨k - 1, by omega⟩
    have hK := hK k (by omega)
    simp only at hK
    have E1 : Aside0 (wrap64 ((i : Int) - 1) = ((i - 1 : Nat) : Int)) := ⟨qBg (by omega) (by omega)⟩
    have E3 : Aside0 (wrap64 ((i : Int) + 1) = ((i + 1 : Nat) : Int)) := ⟨qBg (by omega) (by omega)⟩
    simp only [hogsheadref15_may.l0]
    rw [if_pos (by omega), E1.out, if_pos (by omega), if_pos (by omega), if_pos (by omega), qAy x.f5 (i - 1) hlt2, qAy x.f5 i hlt, E3.out, hK]
    have e1 : x.f5.drop (i - 1) = x.f5[i - 1] :: x.f5.drop i := by rw [List.drop_eq_getElem_cons hlt2]; congr 2; omega
    have e2 : x.f5.drop i = x.f5[i] :: x.f5.drop (i + 1) := List.drop_eq_getElem_cons hlt
    have e3 : i + 1 - 1 = i := by omega
    rw [e1, e3, e2]
    show _ = some ((Op.bytesLess x.f5[i - 1].toList x.f5[i].toList && qA3 (x.f5[i] :: x.f5.drop (i + 1))) && x.f4.all g)
    cases Op.bytesLess x.f5[i - 1].toList x.f5[i].toList
    · rw [if_neg (by simp)]; rfl
    · rw [if_pos rfl]; rfl
theorem qHi : ∀ (d : Nat) (x : S25), (∃ D, T D 4000 x) → d ≤ 100 → Ev (fun k => hogsheadref15_may.f k x.f0 x.f1 x.f2 x.f3 x.f4 x.f5 (d : Int)) (goodV d x) := by
  intro d
  induction d with
  | zero =>
    intro x _ _
    refine ⟨2, fun k hk => ?_⟩
    obtain ⟨k, rfl⟩ : ∃ m, k = m + 2 := ⟨k - 2, by omega⟩
    simp only [hogsheadref15_may.f, hogsheadref15_may.j0]
    rw [if_pos (by omega), if_pos trivial]
    rfl
  | succ d ih =>
    intro x hT hd
    obtain ⟨D, hT⟩ := hT
    have hl := hT.len
    have hch : ∀ y ∈ x.f4, Ev (fun k => hogsheadref15_may.f k y.f0 y.f1 y.f2 y.f3 y.f4 y.f5 (d : Int)) (goodV d y) := fun y hy => by
      cases D with
      | zero => exact hT.1.elim
      | succ D => exact ih y ⟨D, hT.child hy⟩ (by omega)
    obtain ⟨K1, hK1⟩ := qIi x
    obtain ⟨K2, hK2⟩ := qHk x d (goodV d) (by omega) (by omega) (by omega) hch (x.f5.length - 1) 1 rfl (by omega)
    refine ⟨K1 + K2 + 3, fun k hk => ?_⟩
    obtain ⟨k, rfl⟩ : ∃ m, k = m + 3 := ⟨k - 3, by omega⟩
    have hK1 := hK1 (k + 2) (by omega)
    have hK2 := hK2 k (by omega)
    simp only [Nat.sub_self, List.drop_zero] at hK1 hK2
    rw [show ((1 : Nat) : Int) = 1 from rfl] at hK2
    rw [goodV, qDl]
    simp only [hogsheadref15_may.f]
    rw [if_neg (by omega), hK1]
    simp only [Option.bind_some]
    cases hp : plainB x
    · rw [if_neg (by decide)]
      simp only [hogsheadref15_may.j0]
      rw [if_pos trivial]; rfl
    · rw [if_pos rfl]
      by_cases c1 : x.f0 < 0
      · rw [if_pos c1, decide_eq_false (by omega)]
        simp only [hogsheadref15_may.j0]
        rw [if_pos trivial]; rfl
      · rw [if_neg c1, decide_eq_true (by omega : 0 ≤ x.f0)]
        by_cases c2 : x.f0 > 5
        · rw [if_pos c2, decide_eq_false (by omega)]
          simp only [hogsheadref15_may.j0]
          rw [if_pos trivial]; rfl
        · rw [if_neg c2, decide_eq_true (by omega : x.f0 ≤ 5)]
          by_cases c3 : x.f2 < -9007199254740992
          · rw [if_pos c3, decide_eq_false (by omega)]
            simp only [hogsheadref15_may.j0]
            rw [if_pos trivial]; rfl
          · rw [if_neg c3, decide_eq_true (by omega : -9007199254740992 ≤ x.f2)]
            simp only [hogsheadref15_may.j0]
            by_cases c4 : x.f2 > 9007199254740992
            · rw [if_pos (decide_eq_true c4), decide_eq_false (by omega : ¬ x.f2 ≤ 9007199254740992)]; rfl
            · rw [if_neg (by rw [decide_eq_true_eq]; exact c4), decide_eq_true (by omega : x.f2 ≤ 9007199254740992)]
              simp only [Bool.true_and]
              by_cases c5 : x.f0 = 5
              · rw [if_pos c5]
                simp only [hogsheadref15_may.j1]
                by_cases c6 : x.f5.length = x.f4.length
                · rw [if_neg (by simp [c6]), hK2, c5]
                  simp [c6]
                · rw [if_pos (by simp; omega), c5]
                  simp [c6]
              · rw [if_neg c5]
                simp only [hogsheadref15_may.j1]
                rw [if_neg (by decide), hK2]
                have : (x.f0 != 5) = true := by simp [c5]
                rw [this]; simp
theorem qDu (D : Nat) (x : S25) (hT : T D 4000 x) : Ev (fun k => hogsheadref15_May.f k x.f0 x.f1 x.f2 x.f3 x.f4 x.f5) (goodV 16 x) := by
  obtain ⟨r, ⟨K1, hK1⟩, h1, h2⟩ := qF0 20 D x hT (by omega)
  obtain ⟨K2, hK2⟩ := qHi 16 x ⟨D, hT⟩ (by omega)
  refine ⟨K1 + K2, fun k hk => ?_⟩
  have hK1 := hK1 k (by omega)
  have hK2 := hK2 k (by omega)
  simp only at hK1 hK2
  have h3 := hT.2
  show hogsheadref15_May.f k _ _ _ _ _ _ = _
  unfold hogsheadref15_May.f
  rw [show (20 : Int) = ((20 : Nat) : Int) from rfl, hK1]
  simp only [Option.bind_some]
  rw [if_pos (by omega), show (16 : Int) = ((16 : Nat) : Int) from rfl, hK2]
  rfl
end Go.Proofs.YtbnoihpooeombaaDoor.X

namespace Go.Proofs.YtbnoihpooeombaaDoor.P
open Go.Proofs.YtbnoihpooeombaaDoor.X
open Go.RowKit Go.Proofs.YtbnoihpooeombaaDoorW.PrintWords Go.Proofs.YtbnoihpooeombaaDoorW.PrintLast Go.Proofs.YtbnoihpooeombaaDoorW.PrintMore
attribute [local go_sem] qAz qA5
set_option linter.unusedVariables false
set_option linter.unusedSimpArgs false
def strconv_FormatBool_93.f (a0 : Bool) : Option (ByteArray) := if a0 = true then (some (⟨#[116, 114, 117, 101]⟩ : ByteArray)) else (some (⟨#[102, 97, 108, 115, 101]⟩ : ByteArray))
set_option maxHeartbeats 8000000 in
set_option maxRecDepth 100000 in
theorem strconv_FormatBool_93.calls (a0 : Bool) (r : ByteArray) (w : World) (h : strconv_FormatBool_93.f a0 = some r) :
  Calls Tryd.prog 93 #[.bool a0] w fun e w' => e = .returned (.string r) ∧ Drawn0 w w' := by
 have H : (if a0 = true then (some (⟨#[116, 114, 117, 101]⟩ : ByteArray)) else (some (⟨#[102, 97, 108, 115, 101]⟩ : ByteArray))) = some r := h
 clear h
 by_cases c2 : a0 = true
 ·subst c2
  have H1 : (some (⟨#[116, 114, 117, 101]⟩ : ByteArray)) = some r := by rw [if_pos rfl] at H; exact H
  clear H
  have H := H1
  clear H1
  obtain rfl := Option.some.inj H
  go_enter Tryd.func93, Tryd.ntmps93
  go_wp2
  go_ret
  exact ⟨by first | rfl | (simp; done) | (simp [*]; done), by repeat (first | exact Drawn0.refl _ | apply Drawn0.step)⟩
 ·replace c2 := Bool.eq_false_iff.mpr c2
  subst c2
  have H1 : (some (⟨#[102, 97, 108, 115, 101]⟩ : ByteArray)) = some r := by rw [if_neg (show ¬ (false = true) by decide)] at H; exact H
  clear H
  have H := H1
  clear H1
  obtain rfl := Option.some.inj H
  go_enter Tryd.func93, Tryd.ntmps93
  go_wp2
  go_ret
  exact ⟨by first | rfl | (simp; done) | (simp [*]; done), by repeat (first | exact Drawn0.refl _ | apply Drawn0.step)⟩
end Go.Proofs.YtbnoihpooeombaaDoor.P

namespace Go.Proofs.YtbnoihpooeombaaDoor.P
open Go.Proofs.YtbnoihpooeombaaDoor.X
open Go.RowKit Go.Proofs.YtbnoihpooeombaaDoorW.PrintWords Go.Proofs.YtbnoihpooeombaaDoorW.PrintLast Go.Proofs.YtbnoihpooeombaaDoorW.PrintMore
attribute [local go_sem] qAz qA5
set_option linter.unusedVariables false
set_option linter.unusedSimpArgs false
def strconv_FormatBool_66.f (a0 : Bool) : Option (ByteArray) := (strconv_FormatBool_93.f a0).bind fun t135 => (some t135)
set_option maxHeartbeats 8000000 in
set_option maxRecDepth 100000 in
theorem strconv_FormatBool_66.calls (a0 : Bool) (r : ByteArray) (w : World) (h : strconv_FormatBool_66.f a0 = some r) :
  Calls Tryd.prog 66 #[.bool a0] w fun e w' => e = .returned (.string r) ∧ Drawn0 w w' := by
 have H : ((strconv_FormatBool_93.f a0).bind fun t135 => (some t135)) = some r := h
 clear h
 replace H := Option.bind_eq_some_iff.mp H
 obtain ⟨t135, A20, H⟩ := H
 replace H : (some t135) = some r := H
 have A2 := Aside0.mk A20
 clear A20
 obtain rfl := Option.some.inj H
 go_enter Tryd.func66, Tryd.ntmps66
 go_wp2_with (first | ((with_reducible refine qAp (f := 93) rfl ?_); refine goesL_ (some 4) rfl rfl Tryd.func93 (by kernel_rfl) rfl #[.bool a0] rfl (by (try simp only [List.map_toArray, List.map_cons, List.map_nil]); first | done | rfl | (simp only [List.length_drop, List.length_take]; rfl)) ?_; (with_reducible refine (strconv_FormatBool_93.calls a0 t135 _ A2.out).mono ?_); rintro e w' ⟨rfl, ⟨nd, rfl⟩⟩; refine ⟨_, rfl, ?_⟩))
 go_ret
 exact ⟨by first | rfl | (simp; done) | (simp [*]; done), by repeat (first | exact Drawn0.refl _ | apply Drawn0.step)⟩
end Go.Proofs.YtbnoihpooeombaaDoor.P

namespace Go.Proofs.YtbnoihpooeombaaDoor.X
open Go.RowKit Go.Proofs.YtbnoihpooeombaaDoorW.PrintWords
set_option linter.unusedVariables false
set_option linter.unusedSimpArgs false
theorem e16 : IntKind.u64.wrap (bits BinOp.and IntKind.u64 16 (IntKind.u64.wrap (-16)) * 285870213051353865) / 288230376151711744 = 15 := by decide +kernel
def strconv_FormatUint.f (a0 a1 : Int) : Option ByteArray := if 0 ≤ a0 ∧ a0 < 18446744073709551616 ∧ a1 = 16 then some ⟨(qGq 16 a0.toNat).toArray⟩ else none
def strings_Repeat.f (a0 : ByteArray) (a1 : Int) : Option ByteArray := if 0 ≤ a1 ∧ a1 ≤ 9223372036854775807 ∧ a0.size * a1.toNat ≤ 140737488355328 then some ⟨(Lib.repeatL a0.data.toList a1.toNat).toArray⟩ else none
end Go.Proofs.YtbnoihpooeombaaDoor.X

namespace Go.Proofs.YtbnoihpooeombaaDoor.X
open Go.RowKit Go.Proofs.YtbnoihpooeombaaDoorW.PrintWords
set_option linter.unusedVariables false
set_option linter.unusedSimpArgs false
theorem qHa {w : World} {ad : Addr} {v : Value} (h : w.cell? ad = some v) : ad = ⟨ad.block, ad.off, none⟩ ∧ ad.block < w.heap.size := by
  unfold World.cell? at h
  split at h
  · rename_i c t f hc
    split at h
    · cases h
    · rename_i hs
      obtain ⟨b, o, s⟩ := ad
      cases s with
      | none => exact ⟨rfl, by
          rcases Nat.lt_or_ge b w.heap.size with h' | h'
          · exact h'
          · simp [Array.getElem?_eq_none h'] at hc⟩
      | some s => exact absurd rfl hs
  · cases h
def joinB (l : List ByteArray) (s : ByteArray) : ByteArray := ⟨(Lib.join (l.map (·.data.toList)) s.data.toList).toArray⟩
def strings_Join.f (l0 : List ByteArray) (a1 : ByteArray) : Option ByteArray := if (joinB l0 a1).size ≤ 140737488355328 ∧ l0.length ≤ 140737488355328 then some (joinB l0 a1) else none
theorem strings_Join.calls (A0 : Option Addr) (c0 : Nat) (l0 : List ByteArray) (a1 r : ByteArray) (w : World) (hr0 : Kd.C Kd.string w A0 l0.length l0) (hc0 : l0.length ≤ c0) (h : strings_Join.f l0 a1 = some r) :
    Calls Tryd.prog 68 #[.slice A0 l0.length c0, .string a1] w fun e w' => e = .returned (.string r) ∧ Below w.heap.size w w' := by
  unfold strings_Join.f at h
  split at h
  · rename_i hc
    cases h
    by_cases h0 : l0.length = 0
    · have h1 : l0 = [] := List.length_eq_zero_iff.1 h0
      subst h1
      exact (Tryd.strings_Join_none A0 c0 a1 w).mono fun e w' ⟨he, hw⟩ => ⟨he.trans rfl, hw ▸ Below.refl _ _⟩
    · obtain ⟨ad, rfl, h1⟩ := Kd.at_string hr0 0 (by omega) (by omega)
      have had : ad = ⟨ad.block, ad.off, none⟩ ∧ ad.block < w.heap.size := qHa h1
      obtain ⟨hp, ip⟩ := had
      generalize ad.block = bk at *
      generalize ad.off = o at *
      subst hp
      exact Tryd.strings_Join bk o c0 l0 a1 w (fun j x hj => by
        have hlt : j < l0.length := by
          rcases Nat.lt_or_ge j l0.length with h | h
          · exact h
          · rw [List.getElem?_eq_none h] at hj; cases hj
        obtain ⟨ad2, e, h2⟩ := Kd.at_string hr0 (j : Int) (by omega) (by omega)
        cases e
        have e3 : rdOf ByteArray.empty l0 (j : Int) = x := by simp [rdOf, List.getD_eq_getElem?_getD, hj]
        rw [e3] at h2
        have e4 : (⟨bk, o, none⟩ : Addr).add (j : Int).toNat = ⟨bk, o + j, none⟩ := by
          unfold Addr.add
          by_cases c : j = 0
          · subst c; simp
          · rw [if_neg (by omega)]; simp
        rw [e4] at h2
        exact h2) ip hc.2 hc0 (by have := hc.1; simpa [joinB, ByteArray.size] using this)
  · cases h
def strconv_Itoa.f (a0 : Int) : Option ByteArray := if -9223372036854775808 ≤ a0 ∧ a0 ≤ 9223372036854775807 then some ⟨(Lib.itoa a0).toArray⟩ else none
theorem strconv_Itoa.calls (a0 : Int) (r : ByteArray) (w : World) (hT : Aside0 (Tabs w)) (h : strconv_Itoa.f a0 = some r) :
    Calls Tryd.prog 67 #[.int .i64 a0] w fun e w' => e = .returned (.string r) ∧ Below w.heap.size w w' := by
  unfold strconv_Itoa.f at h
  split at h
  · rename_i hc
    cases h
    exact (Tryd.strconv_Itoa a0 hc.1 hc.2 w hT.out.pow).mono fun e w' ⟨he, k, os, hw⟩ => ⟨he, by rw [hw]; exact Lib.below_grow _ w (Nat.le_refl _) k os⟩
  · cases h
end Go.Proofs.YtbnoihpooeombaaDoor.X
