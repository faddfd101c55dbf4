/- Part 3 of what is behind the row RowValueOf: Pf46, Pf14, XVN, XVE, Pf93, Pf66, X1, XVK, Pf47, Pf16, XVX, XVY, Pf24, XVZ, Pf98, Pf70, Pf71, Pf49, XVH, XVG, Pf55. -/
import Derived.Test.YtbnoihpooeombaaDoorMVO2
import Derived.Test.YtbnoihpooeombaaDoorProg
import Derived.Below
import Derived.Deep.Draws
import Derived.Deep.AppendLies
import Derived.Maps.AppendAt
import Derived.OwnWalk
import Derived.Laws.BytesArg
import Derived.Laws.MakeOwn
import Derived.Laws.OwnMore
import Derived.Deep.OwnRows
import Derived.Tactics
import Derived.Lib.ConvBytes
import Derived.Laws.Slices
import Derived.WalkKit
import Derived.KernelRfl
import Derived.RowKit3
import Derived.Deep.LoopGhost
import Derived.Deep.QuietTactic
import Derived.BigQuiet
import Derived.WideLaws
import Derived.Deep.DeepCutAuto
import Derived.Deep.CutBlock
import Derived.Deep.RegionHeld3
import Derived.Laws.Rows
import Derived.Lib.AppendStr
import Derived.ArgAppend
import Derived.Laws.IdiomCopy
import Derived.OrdersHeld
import Derived.Laws.BitsLemmas
import Derived.RowKit
import Derived.Laws.Cover1
import Derived.Laws.StructEq
import Derived.Lib.ItoaNum
import Derived.Lib.ItoaMem
import Derived.Deep.DeepMust
import Derived.Deep.AppendSrc
import Derived.Lib.SliceRun
import Derived.Outline
import Derived.WalkLawsBesides
import Derived.WalkSpells
import Derived.LoopTactic
import Derived.Lib.Hide
import Derived.Lib.IndexMore
import Derived.Lib.Bytealg
import Derived.Laws.BitsAllLaws
import Derived.Lib.Repeat
import Derived.Lib.ItoaLen
import Derived.Laws.Bits64b
import Derived.Laws.NewBlocks
import Derived.Lib.AppendIntMem
import Derived.Shelf.Strings.Builder1
import Derived.Shelf.Strings.Builder2
import Derived.Shelf.Strings.OnBuilder
import Derived.Shelf.Strings.BuilderF
import Derived.Shelf.Strings.BuilderK
import Derived.Shelf.Strconv.Itoa0
import Derived.Shelf.Strconv.Itoa1
import Derived.Shelf.LaysM
import Derived.Shelf.Strconv.Itoa2
import Derived.Shelf.Strconv.Itoa3
import Derived.Shelf.Strings.Prefix
import Derived.Shelf.Bits.Mul64
import Derived.Shelf.Strings.Repeat
namespace Go.Proofs.YtbnoihpooeombaaDoor.P
open Go.Proofs.YtbnoihpooeombaaDoor.X
open Go.RowKit Go.Proofs.YtbnoihpooeombaaDoorW.PrintWords Go.Proofs.YtbnoihpooeombaaDoorW.PrintLast Go.Proofs.YtbnoihpooeombaaDoorW.PrintMore
attribute [local go_sem] qAr qAx
set_option linter.unusedVariables false
set_option linter.unusedSimpArgs false
mutual
def hogsheadlaw0_count.j0 : Nat → Int → Int → Bool → Int → Bool → Int → ByteArray → List (S25) → List ByteArray → Option (Int)
 | 0, _, _, _, _, _, _, _, _, _ => none
 | k + 1, x1, x5, x15, x103000, x103001, x103002, x103003, x103004, x103005 => if x15 = true then (some x1) else (hogsheadlaw0_count.l0 k x1 x5 0 x103000 x103001 x103002 x103003 x103004 x103005)
def hogsheadlaw0_count.l0 : Nat → Int → Int → Int → Int → Bool → Int → ByteArray → List (S25) → List ByteArray → Option (Int)
 | 0, _, _, _, _, _, _, _, _, _ => none
 | k + 1, x1, x5, x6, x103000, x103001, x103002, x103003, x103004, x103005 => if x6 < (x103004.length : Int) then (if x5 < x1 then (if 0 ≤ x6 then ((hogsheadlaw0_count.f k ((rd_T25 x103004 x6).f0) ((rd_T25 x103004 x6).f1) ((rd_T25 x103004 x6).f2) ((rd_T25 x103004 x6).f3) ((rd_T25 x103004 x6).f4) ((rd_T25 x103004 x6).f5) (wrap64 (x1 - x5))).bind fun t105 => (hogsheadlaw0_count.l0 k x1 (wrap64 (x5 + t105)) (wrap64 (x6 + 1)) x103000 x103001 x103002 x103003 x103004 x103005)) else (none)) else (some x5)) else (some x5)
def hogsheadlaw0_count.f : Nat → Int → Bool → Int → ByteArray → List (S25) → List ByteArray → Int → Option (Int)
 | 0, _, _, _, _, _, _, _ => none
 | k + 1, a0_0, a0_1, a0_2, a0_3, l0_4, l0_5, a1 => if (a0_3.size : Int) > 100 then (hogsheadlaw0_count.j0 k a1 1 true a0_0 a0_1 a0_2 a0_3 l0_4 l0_5) else ((hogsheadlaw0_GreatTexts.f k l0_5 100 100).bind fun t103 => (hogsheadlaw0_count.j0 k a1 1 t103 a0_0 a0_1 a0_2 a0_3 l0_4 l0_5))
end
set_option maxHeartbeats 8000000 in
set_option maxRecDepth 100000 in
theorem hogsheadlaw0_count.calls (k : Nat) : ∀ (a0_0 : Int) (a0_1 : Bool) (a0_2 : Int) (a0_3 : ByteArray) (A0_4 : Option Addr) (c0_4 : Nat) (l0_4 : List (S25)) (A0_5 : Option Addr) (c0_5 : Nat) (l0_5 : List ByteArray) (a1 : Int) (r : Int) (w : World) (hr0_4 : Kd.C k25 w A0_4 l0_4.length l0_4) (hc0_4 : l0_4.length ≤ c0_4) (hr0_5 : Kd.C Kd.string w A0_5 l0_5.length l0_5) (hc0_5 : l0_5.length ≤ c0_5) (h : hogsheadlaw0_count.f k a0_0 a0_1 a0_2 a0_3 l0_4 l0_5 a1 = some r),
  Calls Tryd.prog 46 #[.agg #[.int .i64 a0_0, .bool a0_1, .int .i64 a0_2, .string a0_3, .slice A0_4 l0_4.length c0_4, .slice A0_5 l0_5.length c0_5], .int .i64 a1] w fun e w' => e = .returned (.int .i64 r) ∧ Below w.heap.size w w' := by
 induction k using Nat.strongRecOn with
 | _ k ih =>
 intro a0_0 a0_1 a0_2 a0_3 A0_4 c0_4 l0_4 A0_5 c0_5 l0_5 a1 r w hr0_4 hc0_4 hr0_5 hc0_5 h
 cases k with
 | zero => exact absurd h (by simp [hogsheadlaw0_count.f])
 | succ k =>
 simp only [hogsheadlaw0_count.f] at h
 have hu25 := Tryd.underlying25
 have HR0_4 := Aside0.mk hr0_4
 have HC0_4 := Aside0.mk hc0_4
 clear hr0_4 hc0_4
 have HR0_5 := Aside0.mk hr0_5
 have HC0_5 := Aside0.mk hc0_5
 clear hr0_5 hc0_5
 have HB := Aside0.mk (Below.refl w.heap.size w)
 have H : (if (a0_3.size : Int) > 100 then (hogsheadlaw0_count.j0 k a1 1 true a0_0 a0_1 a0_2 a0_3 l0_4 l0_5) else ((hogsheadlaw0_GreatTexts.f k l0_5 100 100).bind fun t103 => (hogsheadlaw0_count.j0 k a1 1 t103 a0_0 a0_1 a0_2 a0_3 l0_4 l0_5))) = some r := h
 clear h
 have HC3 := Aside0.mk H
 clear H
 go_enter Tryd.func46, Tryd.ntmps46
 go_upto_region 2 with (first | ((with_reducible refine qAy (N := 2) rfl ?_); refine qAv ?hg (N := 2) ?hd (cs := #[.int .i64 a0_0, .bool a0_1, .int .i64 a0_2, .string a0_3, .slice A0_4 l0_4.length c0_4, .slice A0_5 l0_5.length c0_5]) (t := 25) ?hr ?_; (case hd => rfl); (case hg => rfl); (case hr => first | (go_simp; done) | (go_simp; rfl)); intro gb102 hg w4 hbox hb; have n0_ := Aside0.mk (qAj (by repeat (first | (with_reducible first | exact HB.out | apply qAd | apply qAc | apply qAe) | exact HB.out)) hb); have n1_ := Aside0.mk (hbox); have n2_ := Aside0.mk ((by rw [hg]; exact (qAn (by repeat (first | (with_reducible first | exact HB.out | apply qAd | apply qAc | apply qAe) | exact HB.out))) : w.heap.size ≤ gb102)); have n3_ := Aside0.mk ((by rw [hg]; exact (qAn (by repeat (first | (with_reducible first | exact HB.out | apply qAd | apply qAc | apply qAe) | exact HB.out))) : w.heap.size ≤ gb102)); clear HB; have HB := n0_; have BK102 := n1_; have GW102 := n2_; have GE102 := n3_; clear n0_ n1_ n2_ n3_; clear hb hbox hg))
 (try simp only [Act.put, List.setIfInBounds_toArray, List.set_cons_zero, List.set_cons_succ])
 go_cut [15] (fun v15 wc => ∃ (kq : Nat) (x15_2 : Bool), v15 = .bool x15_2 ∧ Aside0 (hogsheadlaw0_count.j0 kq a1 1 x15_2 a0_0 a0_1 a0_2 a0_3 l0_4 l0_5 = some r) ∧ Aside0 (kq ≤ k) ∧ Aside0 (wc.heap[gb102]? = some (.cells #[.int .i64 a0_0, .bool a0_1, .int .i64 a0_2, .string a0_3, (.slice A0_4 l0_4.length c0_4), (.slice A0_5 l0_5.length c0_5)] 25 (0, 0))) ∧ Aside0 (Below w.heap.size w wc))
 case first =>
  have H := HC3.out
  clear HC3
  by_cases c5 : (a0_3.size : Int) > 100
  ·rw [if_pos c5] at H
   have c5b0 : decide (100 < (a0_3.size : Int)) = true := decide_eq_true c5
   have c5b1 : decide (100 < a0_3.size) = true := decide_eq_true (by omega)
   clear c5
   (first | rw [c5b0] | (simp only [i64_w, i32_w]; rw [c5b0]) | skip)
   have H' := Aside0.mk H
   clear H
   have hcz6_0 : w4.cell? ⟨gb102, 0, none⟩ = some (.int .i64 a0_0) := (qAb BK102.out 0).trans rfl
   have hcz6_1 : w4.cell? ⟨gb102, 1, none⟩ = some (.bool a0_1) := (qAb BK102.out 1).trans rfl
   have hcz6_2 : w4.cell? ⟨gb102, 2, none⟩ = some (.int .i64 a0_2) := (qAb BK102.out 2).trans rfl
   have hcz6_3 : w4.cell? ⟨gb102, 3, none⟩ = some (.string a0_3) := (qAb BK102.out 3).trans rfl
   have hcz6_4 : w4.cell? ⟨gb102, 4, none⟩ = some (.slice A0_4 l0_4.length c0_4) := (qAb BK102.out 4).trans rfl
   have hcz6_5 : w4.cell? ⟨gb102, 5, none⟩ = some (.slice A0_5 l0_5.length c0_5) := (qAb BK102.out 5).trans rfl
   have hfz6_0 := qAa BK102.out 0
   have hfz6_1 := qAa BK102.out 1
   have hfz6_2 := qAa BK102.out 2
   have hfz6_3 := qAa BK102.out 3
   have hfz6_4 := qAa BK102.out 4
   have hfz6_5 := qAa BK102.out 5
   go_wp2
   go_meet
   case rel => exact ⟨_, (true), (by first | rfl | (simp; done) | (simp [*]; done) | exact congrArg Value.bool (nil_ne _) | exact congrArg Value.bool (nil_eq _) | exact congrArg Value.bool (nil_ne' _)), H', ⟨by first | omega | exact Nat.le_refl _⟩, ⟨by (with_reducible repeat (first | refine qAg ?_ _ | refine qAi ?_ | refine blk_alloc ?_ _)); exact BK102.out⟩, ⟨by repeat (first | (with_reducible first | exact HB.out | apply qAd | apply qAc | apply qAe | refine qAf ?_ GE102.out) | exact HB.out)⟩⟩
  ·rw [if_neg c5] at H
   have c5b0 : decide (100 < (a0_3.size : Int)) = false := decide_eq_false c5
   have c5b1 : decide (100 < a0_3.size) = false := decide_eq_false (by omega)
   clear c5
   (first | rw [c5b0] | (simp only [i64_w, i32_w]; rw [c5b0]) | skip)
   replace H := Option.bind_eq_some_iff.mp H
   obtain ⟨t103, A70, H⟩ := H
   replace H : (hogsheadlaw0_count.j0 k a1 1 t103 a0_0 a0_1 a0_2 a0_3 l0_4 l0_5) = some r := H
   have A7 := Aside0.mk A70
   clear A70
   have H' := Aside0.mk H
   clear H
   have hcz8_0 : w4.cell? ⟨gb102, 0, none⟩ = some (.int .i64 a0_0) := (qAb BK102.out 0).trans rfl
   have hcz8_1 : w4.cell? ⟨gb102, 1, none⟩ = some (.bool a0_1) := (qAb BK102.out 1).trans rfl
   have hcz8_2 : w4.cell? ⟨gb102, 2, none⟩ = some (.int .i64 a0_2) := (qAb BK102.out 2).trans rfl
   have hcz8_3 : w4.cell? ⟨gb102, 3, none⟩ = some (.string a0_3) := (qAb BK102.out 3).trans rfl
   have hcz8_4 : w4.cell? ⟨gb102, 4, none⟩ = some (.slice A0_4 l0_4.length c0_4) := (qAb BK102.out 4).trans rfl
   have hcz8_5 : w4.cell? ⟨gb102, 5, none⟩ = some (.slice A0_5 l0_5.length c0_5) := (qAb BK102.out 5).trans rfl
   have hfz8_0 := qAa BK102.out 0
   have hfz8_1 := qAa BK102.out 1
   have hfz8_2 := qAa BK102.out 2
   have hfz8_3 := qAa BK102.out 3
   have hfz8_4 := qAa BK102.out 4
   have hfz8_5 := qAa BK102.out 5
   go_wp2_with (first | (go_at_call 28; (with_reducible refine (hogsheadlaw0_GreatTexts.calls k _ _ l0_5 100 100 t103 _ ?side1 ?side2 A7.out).mono ?_); (case side1 => repeat (first | exact (Kd.C_below HR0_5.out HB.out) | (with_reducible refine Kd.C_alloc ?_ _) | (with_reducible refine Kd.C_drewN ?_ _) | (with_reducible refine Kd.C_drew ?_))); (case side2 => exact HC0_5.out); rintro e w' ⟨rfl, ⟨nd, rfl⟩⟩))
   go_meet
   case rel => exact ⟨_, (t103), (by first | rfl | (simp; done) | (simp [*]; done) | exact congrArg Value.bool (nil_ne _) | exact congrArg Value.bool (nil_eq _) | exact congrArg Value.bool (nil_ne' _)), H', ⟨by first | omega | exact Nat.le_refl _⟩, ⟨by (with_reducible repeat (first | refine qAg ?_ _ | refine qAi ?_ | refine blk_alloc ?_ _)); exact BK102.out⟩, ⟨by repeat (first | (with_reducible first | exact HB.out | apply qAd | apply qAc | apply qAe | refine qAf ?_ GE102.out) | exact HB.out)⟩⟩
 case rest =>
  clear HC3
  try clear p2
  try clear c4
  try clear c5
  try clear c5b0
  try clear c5b1
  try clear hcz6_0
  try clear hcz6_1
  try clear hcz6_2
  try clear hcz6_3
  try clear hcz6_4
  try clear hcz6_5
  try clear hcz8_0
  try clear hcz8_1
  try clear hcz8_2
  try clear hcz8_3
  try clear hcz8_4
  try clear hcz8_5
  try clear hfz6_0
  try clear hfz6_1
  try clear hfz6_2
  try clear hfz6_3
  try clear hfz6_4
  try clear hfz6_5
  try clear hfz8_0
  try clear hfz8_1
  try clear hfz8_2
  try clear hfz8_3
  try clear hfz8_4
  try clear hfz8_5
  obtain ⟨kq, x15_2, rfl, HA, HJ2, BK102, HB⟩ := hcut
  cases kq with
  | zero => exact absurd HA.out (by simp [hogsheadlaw0_count.j0])
  | succ kj2 =>
   have H := HA.out
   clear HA
   simp only [hogsheadlaw0_count.j0] at H
   by_cases c9 : x15_2 = true
   ·subst c9
    have H1 : (some a1) = some r := by rw [if_pos rfl] at H; exact H
    clear H
    have H := H1
    clear H1
    obtain rfl := Option.some.inj H
    go_wp2
    go_ret
    exact ⟨by first | rfl | (simp [qAl, qAk] <;> rfl) | (simp [*, qAl, qAk] <;> rfl), by repeat (first | (with_reducible first | exact HB.out | apply qAd | apply qAc | apply qAe | refine qAf ?_ GE102.out) | exact HB.out)⟩
   ·replace c9 := Bool.eq_false_iff.mpr c9
    subst c9
    have H1 : (hogsheadlaw0_count.l0 kj2 a1 1 0 a0_0 a0_1 a0_2 a0_3 l0_4 l0_5) = some r := by rw [if_neg (show ¬ (false = true) by decide)] at H; exact H
    clear H
    have H := H1
    clear H1
    have H' := Aside0.mk H
    clear H
    go_wp2
    go_loopg [5, 6] kj2 (fun kq v5 v6 w' => ∃ (x5_2 : Int) (x6_2 : Int), v5 = .int .i64 x5_2 ∧ v6 = .int .i64 x6_2 ∧ Aside0 (hogsheadlaw0_count.l0 kq a1 x5_2 x6_2 a0_0 a0_1 a0_2 a0_3 l0_4 l0_5 = some r) ∧ Aside0 (kq ≤ kj2) ∧ Aside0 (w'.heap[gb102]? = some (.cells #[.int .i64 a0_0, .bool a0_1, .int .i64 a0_2, .string a0_3, (.slice A0_4 l0_4.length c0_4), (.slice A0_5 l0_5.length c0_5)] 25 (0, 0))) ∧ Aside0 (Below w.heap.size w w'))
    case atStart => exact ⟨(1), (0), (by first | rfl | (simp; done) | (simp [*]; done) | exact congrArg Value.bool (nil_ne _) | exact congrArg Value.bool (nil_eq _) | exact congrArg Value.bool (nil_ne' _)), (by first | rfl | (simp; done) | (simp [*]; done) | exact congrArg Value.bool (nil_ne _) | exact congrArg Value.bool (nil_eq _) | exact congrArg Value.bool (nil_ne' _)), H', ⟨Nat.le_refl _⟩, ⟨by (with_reducible repeat (first | refine qAg ?_ _ | refine qAi ?_ | refine blk_alloc ?_ _)); exact BK102.out⟩, ⟨by repeat (first | (with_reducible first | exact HB.out | apply qAd | apply qAc | apply qAe | refine qAf ?_ GE102.out) | exact HB.out)⟩⟩
    case round =>
     clear H'
     try clear p2
     try clear c4
     try clear c5
     try clear c5b0
     try clear c5b1
     try clear c9
     try clear hcz6_0
     try clear hcz6_1
     try clear hcz6_2
     try clear hcz6_3
     try clear hcz6_4
     try clear hcz6_5
     try clear hcz8_0
     try clear hcz8_1
     try clear hcz8_2
     try clear hcz8_3
     try clear hcz8_4
     try clear hcz8_5
     try clear hfz6_0
     try clear hfz6_1
     try clear hfz6_2
     try clear hfz6_3
     try clear hfz6_4
     try clear hfz6_5
     try clear hfz8_0
     try clear hfz8_1
     try clear hfz8_2
     try clear hfz8_3
     try clear hfz8_4
     try clear hfz8_5
     try clear p2
     obtain ⟨x5_2, x6_2, rfl, rfl, HA, HK2, BK102, HB⟩ := hrel
     cases gk with
     | zero => exact absurd HA.out (by simp [hogsheadlaw0_count.l0])
     | succ k2 =>
      have H := HA.out
      clear HA
      simp only [hogsheadlaw0_count.l0] at H
      by_cases c10 : x6_2 < (l0_4.length : Int)
      ·rw [if_pos c10] at H
       have c10b0 : decide (x6_2 < (l0_4.length : Int)) = true := decide_eq_true c10
       clear c10
       by_cases c11 : x5_2 < a1
       ·rw [if_pos c11] at H
        have c11b0 : decide (x5_2 < a1) = true := decide_eq_true c11
        clear c11
        by_cases c12 : 0 ≤ x6_2
        ·rw [if_pos c12] at H
         have c12b0 : decide (0 ≤ x6_2) = true := decide_eq_true c12
         clear c12
         replace H := Option.bind_eq_some_iff.mp H
         obtain ⟨t105, A130, H⟩ := H
         replace H : (hogsheadlaw0_count.l0 k2 a1 (wrap64 (x5_2 + t105)) (wrap64 (x6_2 + 1)) a0_0 a0_1 a0_2 a0_3 l0_4 l0_5) = some r := H
         have A13 := Aside0.mk A130
         clear A130
         have H' := Aside0.mk H
         clear H
         have hcz14_0 : wr.cell? ⟨gb102, 0, none⟩ = some (.int .i64 a0_0) := (qAb BK102.out 0).trans rfl
         have hcz14_1 : wr.cell? ⟨gb102, 1, none⟩ = some (.bool a0_1) := (qAb BK102.out 1).trans rfl
         have hcz14_2 : wr.cell? ⟨gb102, 2, none⟩ = some (.int .i64 a0_2) := (qAb BK102.out 2).trans rfl
         have hcz14_3 : wr.cell? ⟨gb102, 3, none⟩ = some (.string a0_3) := (qAb BK102.out 3).trans rfl
         have hcz14_4 : wr.cell? ⟨gb102, 4, none⟩ = some (.slice A0_4 l0_4.length c0_4) := (qAb BK102.out 4).trans rfl
         have hcz14_5 : wr.cell? ⟨gb102, 5, none⟩ = some (.slice A0_5 l0_5.length c0_5) := (qAb BK102.out 5).trans rfl
         have hfz14_0 := qAa BK102.out 0
         have hfz14_1 := qAa BK102.out 1
         have hfz14_2 := qAa BK102.out 2
         have hfz14_3 := qAa BK102.out 3
         have hfz14_4 := qAa BK102.out 4
         have hfz14_5 := qAa BK102.out 5
         have p104 : 0 ≤ (x6_2 : Int) := of_decide_eq_true (by first | (with_reducible assumption) | assumption)
         have q104 : x6_2 < (l0_4.length : Int) := of_decide_eq_true (by first | (with_reducible assumption) | assumption)
         obtain ⟨ad104, A104_4, c104_4, A104_5, c104_5, e104, hx104_0, hx104_1, hx104_2, hx104_3, hx104_4, hx104_5, hl104_4, hi104_4, hl104_5, hi104_5⟩ := at_T25 HR0_4.out x6_2 p104 q104
         cases e104
         replace hx104_0 := (HB.out.cell (World.block_lt_of_cell? w _ hx104_0)).trans hx104_0
         replace hx104_1 := (HB.out.cell (World.block_lt_of_cell? w _ hx104_1)).trans hx104_1
         replace hx104_2 := (HB.out.cell (World.block_lt_of_cell? w _ hx104_2)).trans hx104_2
         replace hx104_3 := (HB.out.cell (World.block_lt_of_cell? w _ hx104_3)).trans hx104_3
         replace hx104_4 := (HB.out.cell (World.block_lt_of_cell? w _ hx104_4)).trans hx104_4
         replace hx104_5 := (HB.out.cell (World.block_lt_of_cell? w _ hx104_5)).trans hx104_5
         have HR104_4 := Aside0.mk hi104_4
         have HC104_4 := Aside0.mk hl104_4
         clear hi104_4 hl104_4
         have HR104_5 := Aside0.mk hi104_5
         have HC104_5 := Aside0.mk hl104_5
         clear hi104_5 hl104_5
         replace p104 := eq_true p104
         replace q104 := eq_true q104
         go_wp2_with (first | ((with_reducible refine qAp (f := 46) rfl ?_); refine goesL_ (some 38) rfl rfl Tryd.func46 (by kernel_rfl) rfl #[.agg #[.int .i64 ((rd_T25 l0_4 x6_2).f0), .bool ((rd_T25 l0_4 x6_2).f1), .int .i64 ((rd_T25 l0_4 x6_2).f2), .string ((rd_T25 l0_4 x6_2).f3), .slice A104_4 ((rd_T25 l0_4 x6_2).f4).length c104_4, .slice A104_5 ((rd_T25 l0_4 x6_2).f5).length c104_5], .int .i64 (wrap64 (a1 - x5_2))] rfl (by (try simp only [List.map_toArray, List.map_cons, List.map_nil]); first | done | rfl | (simp only [List.length_drop, List.length_take]; rfl)) ?_; (with_reducible refine (ih k2 (by have := HJ2.out; have := HK2.out; omega) ((rd_T25 l0_4 x6_2).f0) ((rd_T25 l0_4 x6_2).f1) ((rd_T25 l0_4 x6_2).f2) ((rd_T25 l0_4 x6_2).f3) _ _ ((rd_T25 l0_4 x6_2).f4) _ _ ((rd_T25 l0_4 x6_2).f5) (wrap64 (a1 - x5_2)) t105 _ ?side1 ?side2 ?side3 ?side4 A13.out).mono ?_); (case side1 => repeat (first | exact (Kd.C_below HR104_4.out HB.out) | (with_reducible refine Kd.C_alloc ?_ _) | (with_reducible refine Kd.C_drewN ?_ _) | (with_reducible refine Kd.C_drew ?_))); (case side2 => exact HC104_4.out); (case side3 => repeat (first | exact (Kd.C_below HR104_5.out HB.out) | (with_reducible refine Kd.C_alloc ?_ _) | (with_reducible refine Kd.C_drewN ?_ _) | (with_reducible refine Kd.C_drew ?_))); (case side4 => exact HC104_5.out); rintro e w15 ⟨rfl, hb⟩; refine ⟨_, rfl, ?_⟩; have n0_ := Aside0.mk (qAm (g := gb102) (o := .cells #[.int .i64 a0_0, .bool a0_1, .int .i64 a0_2, .string a0_3, .slice (some ad104) l0_4.length c0_4, .slice A0_5 l0_5.length c0_5] 25 (0, 0)) (by (with_reducible repeat (first | refine qAg ?_ _ | refine qAi ?_ | refine blk_alloc ?_ _)); exact BK102.out) hb); have n1_ := Aside0.mk (qAj (by repeat (first | (with_reducible first | exact HB.out | apply qAd | apply qAc | apply qAe | refine qAf ?_ GE102.out) | exact HB.out)) hb); clear BK102; clear HB; have BK102 := n0_; have HB := n1_; clear n0_ n1_; (try clear hb); (try clear hb2); (try clear hk); (try clear hi)))
         go_roundg k2
         case measure => have := HJ2.out; have := HK2.out; omega
         case rel => exact ⟨(wrap64 (x5_2 + t105)), (wrap64 (x6_2 + 1)), (by first | rfl | (simp; done) | (simp [*]; done) | exact congrArg Value.bool (nil_ne _) | exact congrArg Value.bool (nil_eq _) | exact congrArg Value.bool (nil_ne' _)), (by first | rfl | (simp; done) | (simp [*]; done) | exact congrArg Value.bool (nil_ne _) | exact congrArg Value.bool (nil_eq _) | exact congrArg Value.bool (nil_ne' _)), H', ⟨by have := HJ2.out; have := HK2.out; omega⟩, ⟨by (with_reducible repeat (first | refine qAg ?_ _ | refine qAi ?_ | refine blk_alloc ?_ _)); exact BK102.out⟩, ⟨by repeat (first | (with_reducible first | exact HB.out | apply qAd | apply qAc | apply qAe | refine qAf ?_ GE102.out) | exact HB.out)⟩⟩
        ·rw [if_neg c12] at H
         exact absurd H (by simp)
       ·rw [if_neg c11] at H
        have c11b0 : decide (x5_2 < a1) = false := decide_eq_false c11
        clear c11
        obtain rfl := Option.some.inj H
        have hcz16_0 : wr.cell? ⟨gb102, 0, none⟩ = some (.int .i64 a0_0) := (qAb BK102.out 0).trans rfl
        have hcz16_1 : wr.cell? ⟨gb102, 1, none⟩ = some (.bool a0_1) := (qAb BK102.out 1).trans rfl
        have hcz16_2 : wr.cell? ⟨gb102, 2, none⟩ = some (.int .i64 a0_2) := (qAb BK102.out 2).trans rfl
        have hcz16_3 : wr.cell? ⟨gb102, 3, none⟩ = some (.string a0_3) := (qAb BK102.out 3).trans rfl
        have hcz16_4 : wr.cell? ⟨gb102, 4, none⟩ = some (.slice A0_4 l0_4.length c0_4) := (qAb BK102.out 4).trans rfl
        have hcz16_5 : wr.cell? ⟨gb102, 5, none⟩ = some (.slice A0_5 l0_5.length c0_5) := (qAb BK102.out 5).trans rfl
        have hfz16_0 := qAa BK102.out 0
        have hfz16_1 := qAa BK102.out 1
        have hfz16_2 := qAa BK102.out 2
        have hfz16_3 := qAa BK102.out 3
        have hfz16_4 := qAa BK102.out 4
        have hfz16_5 := qAa BK102.out 5
        go_wp2
        go_ret
        exact ⟨by first | rfl | (simp [qAl, qAk] <;> rfl) | (simp [*, qAl, qAk] <;> rfl), by repeat (first | (with_reducible first | exact HB.out | apply qAd | apply qAc | apply qAe | refine qAf ?_ GE102.out) | exact HB.out)⟩
      ·rw [if_neg c10] at H
       have c10b0 : decide (x6_2 < (l0_4.length : Int)) = false := decide_eq_false c10
       clear c10
       obtain rfl := Option.some.inj H
       have hcz17_0 : wr.cell? ⟨gb102, 0, none⟩ = some (.int .i64 a0_0) := (qAb BK102.out 0).trans rfl
       have hcz17_1 : wr.cell? ⟨gb102, 1, none⟩ = some (.bool a0_1) := (qAb BK102.out 1).trans rfl
       have hcz17_2 : wr.cell? ⟨gb102, 2, none⟩ = some (.int .i64 a0_2) := (qAb BK102.out 2).trans rfl
       have hcz17_3 : wr.cell? ⟨gb102, 3, none⟩ = some (.string a0_3) := (qAb BK102.out 3).trans rfl
       have hcz17_4 : wr.cell? ⟨gb102, 4, none⟩ = some (.slice A0_4 l0_4.length c0_4) := (qAb BK102.out 4).trans rfl
       have hcz17_5 : wr.cell? ⟨gb102, 5, none⟩ = some (.slice A0_5 l0_5.length c0_5) := (qAb BK102.out 5).trans rfl
       have hfz17_0 := qAa BK102.out 0
       have hfz17_1 := qAa BK102.out 1
       have hfz17_2 := qAa BK102.out 2
       have hfz17_3 := qAa BK102.out 3
       have hfz17_4 := qAa BK102.out 4
       have hfz17_5 := qAa BK102.out 5
       go_wp2
       go_ret
       exact ⟨by first | rfl | (simp [qAl, qAk] <;> rfl) | (simp [*, qAl, qAk] <;> rfl), by repeat (first | (with_reducible first | exact HB.out | apply qAd | apply qAc | apply qAe | refine qAf ?_ GE102.out) | exact HB.out)⟩
end Go.Proofs.YtbnoihpooeombaaDoor.P

namespace Go.Proofs.YtbnoihpooeombaaDoor.P
open Go.Proofs.YtbnoihpooeombaaDoor.X
open Go.RowKit Go.Proofs.YtbnoihpooeombaaDoorW.PrintWords Go.Proofs.YtbnoihpooeombaaDoorW.PrintLast Go.Proofs.YtbnoihpooeombaaDoorW.PrintMore
attribute [local go_sem] qAr qAx
set_option linter.unusedVariables false
set_option linter.unusedSimpArgs false
def hogsheadlaw0_GreatValue.f (k : Nat) (a0_0 : Int) (a0_1 : Bool) (a0_2 : Int) (a0_3 : ByteArray) (l0_4 : List (S25)) (l0_5 : List ByteArray) (a1 : Int) : Option (Bool) := (hogsheadlaw0_count.f k a0_0 a0_1 a0_2 a0_3 l0_4 l0_5 (wrap64 (a1 + 1))).bind fun t107 => (some (decide (t107 > a1)))
set_option maxHeartbeats 8000000 in
set_option maxRecDepth 100000 in
theorem hogsheadlaw0_GreatValue.calls (k : Nat) (a0_0 : Int) (a0_1 : Bool) (a0_2 : Int) (a0_3 : ByteArray) (A0_4 : Option Addr) (c0_4 : Nat) (l0_4 : List (S25)) (A0_5 : Option Addr) (c0_5 : Nat) (l0_5 : List ByteArray) (a1 : Int) (r : Bool) (w : World) (hr0_4 : Kd.C k25 w A0_4 l0_4.length l0_4) (hc0_4 : l0_4.length ≤ c0_4) (hr0_5 : Kd.C Kd.string w A0_5 l0_5.length l0_5) (hc0_5 : l0_5.length ≤ c0_5) (h : hogsheadlaw0_GreatValue.f k a0_0 a0_1 a0_2 a0_3 l0_4 l0_5 a1 = some r) :
  Calls Tryd.prog 14 #[.agg #[.int .i64 a0_0, .bool a0_1, .int .i64 a0_2, .string a0_3, .slice A0_4 l0_4.length c0_4, .slice A0_5 l0_5.length c0_5], .int .i64 a1] w fun e w' => e = .returned (.bool r) ∧ Below w.heap.size w w' := by
 have hu25 := Tryd.underlying25
 have HR0_4 := Aside0.mk hr0_4
 have HC0_4 := Aside0.mk hc0_4
 clear hr0_4 hc0_4
 have HR0_5 := Aside0.mk hr0_5
 have HC0_5 := Aside0.mk hc0_5
 clear hr0_5 hc0_5
 have HB := Aside0.mk (Below.refl w.heap.size w)
 have H : ((hogsheadlaw0_count.f k a0_0 a0_1 a0_2 a0_3 l0_4 l0_5 (wrap64 (a1 + 1))).bind fun t107 => (some (decide (t107 > a1)))) = some r := h
 clear h
 replace H := Option.bind_eq_some_iff.mp H
 obtain ⟨t107, A30, H⟩ := H
 replace H : (some (decide (t107 > a1))) = some r := H
 have A3 := Aside0.mk A30
 clear A30
 obtain rfl := Option.some.inj H
 go_enter Tryd.func14, Tryd.ntmps14
 go_wp2_with (first | ((with_reducible refine qAy (N := 2) rfl ?_); refine qAv ?hg (N := 2) ?hd (cs := #[.int .i64 a0_0, .bool a0_1, .int .i64 a0_2, .string a0_3, .slice A0_4 l0_4.length c0_4, .slice A0_5 l0_5.length c0_5]) (t := 25) ?hr ?_; (case hd => rfl); (case hg => rfl); (case hr => first | (go_simp; done) | (go_simp; rfl)); intro gb106 hg w4 hbox hb; have n0_ := Aside0.mk (qAj (by repeat (first | (with_reducible first | exact HB.out | apply qAd | apply qAc | apply qAe) | exact HB.out)) hb); have n1_ := Aside0.mk (hbox); have n2_ := Aside0.mk ((by rw [hg]; exact (qAn (by repeat (first | (with_reducible first | exact HB.out | apply qAd | apply qAc | apply qAe) | exact HB.out))) : w.heap.size ≤ gb106)); have n3_ := Aside0.mk ((by rw [hg]; exact (qAn (by repeat (first | (with_reducible first | exact HB.out | apply qAd | apply qAc | apply qAe) | exact HB.out))) : w.heap.size ≤ gb106)); clear HB; have HB := n0_; have BK106 := n1_; have GW106 := n2_; have GE106 := n3_; clear n0_ n1_ n2_ n3_; clear hb hbox hg; have hcz5_0 : w4.cell? ⟨gb106, 0, none⟩ = some (.int .i64 a0_0) := (qAb BK106.out 0).trans rfl; have hcz5_1 : w4.cell? ⟨gb106, 1, none⟩ = some (.bool a0_1) := (qAb BK106.out 1).trans rfl; have hcz5_2 : w4.cell? ⟨gb106, 2, none⟩ = some (.int .i64 a0_2) := (qAb BK106.out 2).trans rfl; have hcz5_3 : w4.cell? ⟨gb106, 3, none⟩ = some (.string a0_3) := (qAb BK106.out 3).trans rfl; have hcz5_4 : w4.cell? ⟨gb106, 4, none⟩ = some (.slice A0_4 l0_4.length c0_4) := (qAb BK106.out 4).trans rfl; have hcz5_5 : w4.cell? ⟨gb106, 5, none⟩ = some (.slice A0_5 l0_5.length c0_5) := (qAb BK106.out 5).trans rfl; have hfz5_0 := qAa BK106.out 0; have hfz5_1 := qAa BK106.out 1; have hfz5_2 := qAa BK106.out 2; have hfz5_3 := qAa BK106.out 3; have hfz5_4 := qAa BK106.out 4; have hfz5_5 := qAa BK106.out 5) | ((with_reducible refine qAp (f := 46) rfl ?_); refine goesL_ (some 8) rfl rfl Tryd.func46 (by kernel_rfl) rfl #[.agg #[.int .i64 a0_0, .bool a0_1, .int .i64 a0_2, .string a0_3, .slice A0_4 l0_4.length c0_4, .slice A0_5 l0_5.length c0_5], .int .i64 (wrap64 (a1 + 1))] rfl (by (try simp only [List.map_toArray, List.map_cons, List.map_nil]); first | done | rfl | (simp only [List.length_drop, List.length_take]; rfl)) ?_; (with_reducible refine (hogsheadlaw0_count.calls k a0_0 a0_1 a0_2 a0_3 _ _ l0_4 _ _ l0_5 (wrap64 (a1 + 1)) t107 _ ?side1 ?side2 ?side3 ?side4 A3.out).mono ?_); (case side1 => repeat (first | exact (Kd.C_below HR0_4.out HB.out) | (with_reducible refine Kd.C_alloc ?_ _) | (with_reducible refine Kd.C_drewN ?_ _) | (with_reducible refine Kd.C_drew ?_))); (case side2 => exact HC0_4.out); (case side3 => repeat (first | exact (Kd.C_below HR0_5.out HB.out) | (with_reducible refine Kd.C_alloc ?_ _) | (with_reducible refine Kd.C_drewN ?_ _) | (with_reducible refine Kd.C_drew ?_))); (case side4 => exact HC0_5.out); rintro e w6 ⟨rfl, hb⟩; refine ⟨_, rfl, ?_⟩; have n0_ := Aside0.mk (qAm (g := gb106) (o := .cells #[.int .i64 a0_0, .bool a0_1, .int .i64 a0_2, .string a0_3, .slice A0_4 l0_4.length c0_4, .slice A0_5 l0_5.length c0_5] 25 (0, 0)) (by (with_reducible repeat (first | refine qAg ?_ _ | refine qAi ?_ | refine blk_alloc ?_ _)); exact BK106.out) hb); have n1_ := Aside0.mk (qAj (by repeat (first | (with_reducible first | exact HB.out | apply qAd | apply qAc | apply qAe | refine qAf ?_ GE106.out) | exact HB.out)) hb); clear BK106; clear HB; have BK106 := n0_; have HB := n1_; clear n0_ n1_; (try clear hb); (try clear hb2); (try clear hk); (try clear hi)))
 go_ret
 exact ⟨by first | rfl | (simp [qAl, qAk] <;> rfl) | (simp [*, qAl, qAk] <;> rfl), by repeat (first | (with_reducible first | exact HB.out | apply qAd | apply qAc | apply qAe | refine qAf ?_ GE106.out) | exact HB.out)⟩
end Go.Proofs.YtbnoihpooeombaaDoor.P

namespace Go.Proofs.YtbnoihpooeombaaDoor.X
open Go.RowKit Go.Proofs.YtbnoihpooeombaaDoorW.PrintWords Go.Proofs.YtbnoihpooeombaaDoor.P
set_option linter.unusedVariables false
set_option linter.unusedSimpArgs false
theorem qBb {z : Int} {m : Nat} (h : z = (m : Int)) (hm : m ≤ 9223372036854775807) : wrap64 z = (m : Int) := by subst h; unfold wrap64; omega
theorem qB1 (l : List S25) (i : Nat) (h : i < l.length) : rd_T25 l (i : Int) = l[i] := by
  simp [rd_T25, List.getD_eq_getElem?_getD, h]
theorem qHl {x y : S25} (h : y ∈ x.f4) : SizeOf.sizeOf y < SizeOf.sizeOf x := by
  have h1 := List.sizeOf_lt_of_mem h
  cases x
  simp only [S25.mk.sizeOf_spec] at *
  omega
def tameD : Nat → S25 → Prop
  | 0, _ => False
  | d + 1, x => x.f3.size ≤ 100 ∧ x.f5.length ≤ 100 ∧ (∀ s ∈ x.f5, s.size ≤ 100) ∧ ∀ y ∈ x.f4, tameD d y
def nodesV : Nat → S25 → Nat
  | 0, _ => 0
  | d + 1, x => 1 + (x.f4.map (nodesV d)).sum
theorem qFk : ∀ d x, tameD d x → tameD (d + 1) x ∧ nodesV (d + 1) x = nodesV d x
  | 0, x, h => h.elim
  | d + 1, x, h => by
    have ih := qFk d
    obtain ⟨h1, h2, h3, h4⟩ := h
    refine ⟨⟨h1, h2, h3, fun y hy => (ih y (h4 y hy)).1⟩, ?_⟩
    rw [nodesV, nodesV]
    congr 2
    exact List.map_congr_left fun y hy => (ih y (h4 y hy)).2
theorem qB5 {d e : Nat} (h : d ≤ e) (x : S25) (ht : tameD d x) : tameD e x ∧ nodesV e x = nodesV d x := by
  induction e with
  | zero => obtain rfl : d = 0 := by omega
            exact ⟨ht, rfl⟩
  | succ e ih =>
    by_cases c : d = e + 1
    · subst c; exact ⟨ht, rfl⟩
    · obtain ⟨h1, h2⟩ := ih (by omega)
      obtain ⟨h3, h4⟩ := qFk e x h1
      exact ⟨h3, h4.trans h2⟩
theorem qDw : ∀ d x, tameD d x → 1 ≤ nodesV d x
  | 0, _, h => h.elim
  | d + 1, x, _ => by rw [nodesV]; omega
theorem sum_ge {f : S25 → Nat} : ∀ (l : List S25), (∀ y ∈ l, 1 ≤ f y) → l.length ≤ (l.map f).sum
  | [], _ => by simp
  | y :: l, h => by
    have := sum_ge l (fun z hz => h z (List.mem_cons_of_mem _ hz))
    have := h y (List.mem_cons_self ..)
    simp only [List.length_cons, List.map_cons, List.sum_cons]
    omega
theorem qF9 {f : S25 → Nat} {y : S25} : ∀ (l : List S25), y ∈ l → f y ≤ (l.map f).sum
  | [], h => by cases h
  | z :: l, h => by
    simp only [List.map_cons, List.sum_cons]
    rcases List.mem_cons.1 h with rfl | h
    · omega
    · have := qF9 (f := f) l h; omega
theorem qE0 {d : Nat} {x y : S25} (h : y ∈ x.f4) : nodesV d y < nodesV (d + 1) x := by
  have := qF9 (f := nodesV d) x.f4 h
  rw [nodesV]; omega
theorem qGn {d : Nat} {x : S25} (h : tameD (d + 1) x) : x.f4.length < nodesV (d + 1) x := by
  have := sum_ge (f := nodesV d) x.f4 (fun y hy => qDw d y (h.2.2.2 y hy))
  rw [nodesV]; omega
theorem qD6 (l : List ByteArray) (m z : Int) (hn : m ≤ 9223372036854775807) : ∀ (d i : Nat), l.length - i = d → i ≤ l.length → (l.length : Int) ≤ m → Ev (fun k => hogsheadlaw0_GreatTexts.l0 k l m z (i : Int)) (decide (∃ s ∈ l.drop i, (s.size : Int) > z)) := by
  intro d
  induction d with
  | zero =>
    intro i hd hi hm
    refine ⟨2, fun k hk => ?_⟩
    obtain ⟨k, rfl⟩ : ∃ m, k = m + 2 := ⟨k - 2, by omega⟩
    simp only [hogsheadlaw0_GreatTexts.l0]
    rw [if_neg (by omega)]
    simp only [hogsheadlaw0_GreatTexts.j1]
    rw [if_neg (by decide), List.drop_eq_nil_of_le (by omega)]
    congr 1
    rw [decide_eq_false (by omega)]
    simp
  | succ d ih =>
    intro i hd hi hm
    have hlt : i < l.length := by omega
    obtain ⟨K, hK⟩ := ih (i + 1) (by omega) (by omega) hm
    refine ⟨K + 2, fun k hk => ?_⟩
    obtain ⟨k, rfl⟩ : ∃ m, k = m + 2 := ⟨k - 2, by omega⟩
    have hK := hK k (by omega)
    simp only at hK
    simp only [hogsheadlaw0_GreatTexts.l0]
    rw [if_pos (by omega)]
    simp only [hogsheadlaw0_GreatTexts.j1]
    rw [if_pos (decide_eq_true hm), if_pos (by omega), if_pos (by omega), qAz l i hlt, wrap_i i l.length hlt (by omega), hK, List.drop_eq_getElem_cons hlt]
    by_cases c : (l[i].size : Int) > z
    · rw [if_pos c]
      congr 1
      exact (decide_eq_true ⟨l[i], List.mem_cons_self .., c⟩).symm
    · rw [if_neg c]
      congr 1
      rw [decide_eq_decide]
      constructor
      · rintro ⟨s, hs, h⟩; exact ⟨s, List.mem_cons_of_mem _ hs, h⟩
      · rintro ⟨s, hs, h⟩
        rcases List.mem_cons.1 hs with rfl | hs
        · exact absurd h c
        · exact ⟨s, hs, h⟩
theorem qCu (l : List ByteArray) (m z : Int) (hn : m ≤ 9223372036854775807) : Ev (fun k => hogsheadlaw0_GreatTexts.f k l m z) (decide ((l.length : Int) > m ∨ ∃ s ∈ l, (s.size : Int) > z)) := by
  by_cases hm : (l.length : Int) ≤ m
  · have := qD6 l m z hn l.length 0 (by omega) (by omega) hm
    rw [List.drop_zero] at this
    have e : decide ((l.length : Int) > m ∨ ∃ s ∈ l, (s.size : Int) > z) = decide (∃ s ∈ l, (s.size : Int) > z) := by
      rw [decide_eq_decide]
      exact ⟨fun h => h.elim (fun h => absurd h (by omega)) id, .inr⟩
    rw [e]
    exact this
  · refine ⟨2, fun k hk => ?_⟩
    obtain ⟨k, rfl⟩ : ∃ m, k = m + 2 := ⟨k - 2, by omega⟩
    show hogsheadlaw0_GreatTexts.l0 _ l m z 0 = _
    simp only [hogsheadlaw0_GreatTexts.l0]
    have e : decide ((l.length : Int) > m ∨ ∃ s ∈ l, (s.size : Int) > z) = true := decide_eq_true (.inl (by omega))
    rw [e]
    split
    · simp only [hogsheadlaw0_GreatTexts.j1]
      rw [if_neg (by rw [decide_eq_true_eq]; exact hm), decide_eq_true (by omega)]
    · simp only [hogsheadlaw0_GreatTexts.j1]
      rw [if_neg (by decide), decide_eq_true (by omega)]
def qG4 (x : S25) (most : Nat) (r : Nat) : Prop := 1 ≤ r ∧ r ≤ most ∧ (r < most → ∃ d, d ≤ r ∧ tameD d x ∧ nodesV d x = r)
theorem qHj (x : S25) (most : Nat) (h2 : most ≤ 100000) (hc : ∀ y ∈ x.f4, ∀ m : Nat, 1 ≤ m → m ≤ 100000 → ∃ r : Nat, Ev (fun k => hogsheadlaw0_count.f k y.f0 y.f1 y.f2 y.f3 y.f4 y.f5 (m : Int)) (r : Int) ∧ qG4 y m r) :
    ∀ (j i n : Nat), most - n ≤ j → 1 ≤ n → n ≤ most → i < n → i ≤ x.f4.length → ∃ r : Nat, Ev (fun k => hogsheadlaw0_count.l0 k (most : Int) (n : Int) (i : Int) x.f0 x.f1 x.f2 x.f3 x.f4 x.f5) (r : Int) ∧ n ≤ r ∧ r ≤ most ∧ (r < most → ∃ d, d ≤ r - n ∧ (∀ y ∈ x.f4.drop i, tameD d y) ∧ r = n + ((x.f4.drop i).map (nodesV d)).sum) := by
  intro j
  induction j with
  | zero =>
    intro i n hj h1 hn hi hl
    refine ⟨n, ⟨1, fun k hk => ?_⟩, Nat.le_refl _, hn, fun h => by omega⟩
    obtain ⟨k, rfl⟩ : ∃ m, k = m + 1 := ⟨k - 1, by omega⟩
    simp only [hogsheadlaw0_count.l0]
    by_cases c : (i : Int) < (x.f4.length : Int)
    · rw [if_pos c, if_neg (by omega)]
    · rw [if_neg c]
  | succ j ih =>
    intro i n hj h1 hn hi hl
    by_cases c : i < x.f4.length
    · by_cases c2 : n < most
      · obtain ⟨cc, ⟨K1, hK1⟩, hc1, hc2, hc3⟩ := hc x.f4[i] (List.getElem_mem c) (most - n) (by omega) (by omega)
        obtain ⟨r, ⟨K2, hK2⟩, hr1, hr2, hr3⟩ := ih (i + 1) (n + cc) (by omega) (by omega) (by omega) (by omega) (by omega)
        have HC3 := Aside0.mk hc3
        have HR3 := Aside0.mk hr3
        clear hc3 hr3
        refine ⟨r, ⟨K1 + K2 + 1, fun k hk => ?_⟩, by omega, hr2, fun h => ?_⟩
        · obtain ⟨k, rfl⟩ : ∃ m, k = m + 1 := ⟨k - 1, by omega⟩
          have hK1 := hK1 k (by omega)
          have hK2 := hK2 k (by omega)
          simp only at hK1 hK2
          have E1 : Aside0 (wrap64 ((most : Int) - (n : Int)) = ((most - n : Nat) : Int)) := ⟨qBb (by omega) (by omega)⟩
          have E2 : Aside0 (wrap64 ((n : Int) + (cc : Int)) = ((n + cc : Nat) : Int)) := ⟨qBb (by omega) (by omega)⟩
          have E3 : Aside0 (wrap64 ((i : Int) + 1) = ((i + 1 : Nat) : Int)) := ⟨qBb (by omega) (by omega)⟩
          simp only [hogsheadlaw0_count.l0]
          rw [if_pos (by omega), if_pos (by omega), if_pos (by omega), qB1 x.f4 i c, E1.out, hK1]
          simp only [Option.bind_some]
          rw [E2.out, E3.out]
          exact hK2
        · obtain ⟨d1, hd1, ht1, hn1⟩ := HC3.out (by omega)
          obtain ⟨d2, hd2, ht2, hn2⟩ := HR3.out h
          refine ⟨max d1 d2, by omega, fun y hy => ?_, ?_⟩
          · rw [List.drop_eq_getElem_cons c] at hy
            rcases List.mem_cons.1 hy with rfl | hy
            · exact (qB5 (Nat.le_max_left _ _) _ ht1).1
            · exact (qB5 (Nat.le_max_right _ _) _ (ht2 y hy)).1
          · rw [List.drop_eq_getElem_cons c, List.map_cons, List.sum_cons, (qB5 (Nat.le_max_left d1 d2) _ ht1).2, hn1]
            have e : (x.f4.drop (i + 1)).map (nodesV (max d1 d2)) = (x.f4.drop (i + 1)).map (nodesV d2) := List.map_congr_left fun y hy => (qB5 (Nat.le_max_right d1 d2) _ (ht2 y hy)).2
            rw [e]
            omega
      · refine ⟨n, ⟨1, fun k hk => ?_⟩, Nat.le_refl _, hn, fun h => by omega⟩
        obtain ⟨k, rfl⟩ : ∃ m, k = m + 1 := ⟨k - 1, by omega⟩
        simp only [hogsheadlaw0_count.l0]
        rw [if_pos (by omega), if_neg (by omega)]
    · refine ⟨n, ⟨1, fun k hk => ?_⟩, Nat.le_refl _, hn, fun h => ⟨0, by omega, ?_, ?_⟩⟩
      · obtain ⟨k, rfl⟩ : ∃ m, k = m + 1 := ⟨k - 1, by omega⟩
        simp only [hogsheadlaw0_count.l0]
        rw [if_neg (by omega)]
      · rw [List.drop_eq_nil_of_le (by omega)]; intro y hy; cases hy
      · rw [List.drop_eq_nil_of_le (by omega)]; simp
theorem qHk : ∀ (n : Nat) (x : S25), SizeOf.sizeOf x < n → ∀ most : Nat, 1 ≤ most → most ≤ 100000 →
    ∃ r : Nat, Ev (fun k => hogsheadlaw0_count.f k x.f0 x.f1 x.f2 x.f3 x.f4 x.f5 (most : Int)) (r : Int) ∧ qG4 x most r := by
  intro n
  induction n with
  | zero => intro x h; omega
  | succ n ih =>
    intro x hx most h1 h2
    obtain ⟨K1, hg⟩ := qCu x.f5 100 100 (by omega)
    by_cases c : ((x.f3.size : Int) > 100) ∨ ((x.f5.length : Int) > 100 ∨ ∃ s ∈ x.f5, (s.size : Int) > 100)
    · refine ⟨most, ⟨K1 + 2, fun k hk => ?_⟩, h1, Nat.le_refl _, fun h => by omega⟩
      obtain ⟨k, rfl⟩ : ∃ m, k = m + 2 := ⟨k - 2, by omega⟩
      have hg := hg (k + 1) (by omega)
      simp only at hg
      simp only [hogsheadlaw0_count.f]
      by_cases c1 : (x.f3.size : Int) > 100
      · rw [if_pos c1]
        simp only [hogsheadlaw0_count.j0]
        rw [if_pos trivial]
      · rw [if_neg c1, hg, decide_eq_true (c.resolve_left c1)]
        simp only [Option.bind_some, hogsheadlaw0_count.j0]
        rw [if_pos trivial]
    · obtain ⟨r, ⟨K2, hK2⟩, hr1, hr2, hr3⟩ := qHj x most h2 (fun y hy m hm1 hm2 => ih y (by have := qHl hy; omega) m hm1 hm2) most 0 1 (by omega) (by omega) h1 (by omega) (by omega)
      refine ⟨r, ⟨K1 + K2 + 2, fun k hk => ?_⟩, hr1, hr2, fun h => ?_⟩
      · obtain ⟨k, rfl⟩ : ∃ m, k = m + 2 := ⟨k - 2, by omega⟩
        have hg := hg (k + 1) (by omega)
        have hK2 := hK2 k (by omega)
        simp only at hg hK2
        simp only [hogsheadlaw0_count.f]
        rw [if_neg (fun h => c (.inl h)), hg, decide_eq_false (fun h => c (.inr h))]
        simp only [Option.bind_some, hogsheadlaw0_count.j0]
        rw [if_neg (by decide)]
        exact hK2
      · obtain ⟨d, hd, ht, hn⟩ := hr3 h
        rw [List.drop_zero] at ht hn
        refine ⟨d + 1, by omega, ⟨?_, ?_, ?_, ht⟩, ?_⟩
        · have h' : ¬ ((x.f3.size : Int) > 100) := fun h => c (.inl h)
          clear c; omega
        · have h' : ¬ ((x.f5.length : Int) > 100) := fun h => c (.inr (.inl h))
          clear c; omega
        · intro s hs
          have h' : ¬ ((s.size : Int) > 100) := fun h => c (.inr (.inr ⟨s, hs, h⟩))
          clear c; omega
        · rw [nodesV]; omega
def Small (most : Nat) (x : S25) : Prop := tameD most x ∧ nodesV most x ≤ most
theorem qHi (x : S25) (most : Nat) (hm : most ≤ 90000) : ∃ b, Ev (fun k => hogsheadlaw0_GreatValue.f k x.f0 x.f1 x.f2 x.f3 x.f4 x.f5 (most : Int)) b ∧ (b = false → Small most x) := by
  obtain ⟨r, ⟨K, hK⟩, h1, h2, h3⟩ := qHk (SizeOf.sizeOf x + 1) x (by omega) (most + 1) (by omega) (by omega)
  refine ⟨decide ((r : Int) > (most : Int)), ⟨K, fun k hk => ?_⟩, fun h => ?_⟩
  · have hK := hK k hk
    simp only at hK
    have e : wrap64 ((most : Int) + 1) = ((most + 1 : Nat) : Int) := qBb (by omega) (by omega)
    show hogsheadlaw0_GreatValue.f k _ _ _ _ _ _ _ = _
    unfold hogsheadlaw0_GreatValue.f
    rw [e, hK]
    rfl
  · have h := of_decide_eq_false h
    obtain ⟨d, hd, ht, hn⟩ := h3 (by omega)
    obtain ⟨h4, h5⟩ := qB5 (show d ≤ most by omega) x ht
    exact ⟨h4, by omega⟩
end Go.Proofs.YtbnoihpooeombaaDoor.X

namespace Go.Proofs.YtbnoihpooeombaaDoor.X
open Go.RowKit Go.Proofs.YtbnoihpooeombaaDoorW.PrintWords Go.Proofs.YtbnoihpooeombaaDoor.P
set_option linter.unusedVariables false
set_option linter.unusedSimpArgs false
def goodV : Nat → S25 → Bool
  | 0, _ => false
  | d + 1, x => qBc x && x.f4.all (goodV d)
theorem qFq (f : S25 → Nat → Nat × Bool) (g : S25 → Bool) (m : S25 → Nat) (hf : ∀ x n, n ≤ 4000 → ((f x n).2 = true ↔ g x = true ∧ n + m x ≤ 4000) ∧ ((f x n).2 = true → (f x n).1 = n + m x)) :
    ∀ l n, n ≤ 4000 → ((mayL f l n).2 = true ↔ l.all g = true ∧ n + (l.map m).sum ≤ 4000) ∧ ((mayL f l n).2 = true → (mayL f l n).1 = n + (l.map m).sum)
  | [], n, hn => by simp [mayL, hn]
  | x :: l, n, hn => by
    obtain ⟨h1, h2⟩ := hf x n hn
    unfold mayL
    simp only [List.all_cons, List.map_cons, List.sum_cons, Bool.and_eq_true]
    by_cases c : (f x n).2 = true
    · rw [if_pos c, h2 c]
      have hc := h1.1 c
      obtain ⟨h3, h4⟩ := qFq f g m hf l (n + m x) hc.2
      constructor
      · rw [h3]
        constructor
        · rintro ⟨a, b⟩; exact ⟨⟨hc.1, a⟩, by omega⟩
        · rintro ⟨⟨a, a2⟩, b⟩; exact ⟨a2, by omega⟩
      · intro h; rw [h4 h]; omega
    · rw [if_neg c]
      constructor
      · constructor
        · intro h; cases h
        · rintro ⟨⟨a, a2⟩, b⟩; exact absurd (h1.2 ⟨a, by omega⟩) c
      · intro h; cases h
theorem qFp : ∀ d x n, n ≤ 4000 → ((mayV d x n).2 = true ↔ goodV d x = true ∧ n + nodesV d x ≤ 4000) ∧ ((mayV d x n).2 = true → (mayV d x n).1 = n + nodesV d x)
  | 0, x, n, hn => by simp [mayV, goodV]
  | d + 1, x, n, hn => by
    unfold mayV
    rw [goodV, nodesV]
    by_cases c : n + 1 > 4000
    · rw [if_pos c]
      constructor
      · constructor
        · intro h; cases h
        · rintro ⟨_, b⟩; omega
      · intro h; cases h
    · rw [if_neg c]
      by_cases c2 : qBc x = true
      · rw [if_pos c2, c2, Bool.true_and]
        obtain ⟨h1, h2⟩ := qFq (mayV d) (goodV d) (nodesV d) (qFp d) x.f4 (n + 1) (by omega)
        exact ⟨h1.trans ⟨fun h => ⟨h.1, by omega⟩, fun h => ⟨h.1, by omega⟩⟩, fun h => by rw [h2 h]; omega⟩
      · rw [if_neg c2, eq_false_of_ne_true c2, Bool.false_and]
        constructor
        · constructor
          · intro h; cases h
          · rintro ⟨h, _⟩; cases h
        · intro h; cases h
theorem qD5 : ∀ d x, goodV d x = true → goodV (d + 1) x = true ∧ nodesV (d + 1) x = nodesV d x
  | 0, x, h => by simp [goodV] at h
  | d + 1, x, h => by
    rw [goodV, Bool.and_eq_true, List.all_eq_true] at h
    refine ⟨?_, ?_⟩
    · rw [goodV, Bool.and_eq_true, List.all_eq_true]
      exact ⟨h.1, fun y hy => (qD5 d y (h.2 y hy)).1⟩
    · rw [nodesV, nodesV]
      congr 2
      exact List.map_congr_left fun y hy => (qD5 d y (h.2 y hy)).2
theorem qF1 {d e : Nat} (h : d ≤ e) (x : S25) (hg : goodV d x = true) : goodV e x = true ∧ nodesV e x = nodesV d x := by
  induction e with
  | zero => obtain rfl : d = 0 := by omega
            exact ⟨hg, rfl⟩
  | succ e ih =>
    by_cases c : d = e + 1
    · subst c; exact ⟨hg, rfl⟩
    · obtain ⟨h1, h2⟩ := ih (by omega)
      obtain ⟨h3, h4⟩ := qD5 e x h1
      exact ⟨h3, h4.trans h2⟩
theorem qDv {d D : Nat} (x : S25) (hg : goodV d x = true) (ht : tameD D x) : nodesV d x = nodesV D x := by
  rw [← (qF1 (Nat.le_max_left d D) x hg).2, (qB5 (Nat.le_max_right d D) x ht).2]
def T (D n : Nat) (x : S25) : Prop := tameD D x ∧ nodesV D x ≤ n
theorem T.child {D n : Nat} {x y : S25} (h : T (D + 1) n x) (hy : y ∈ x.f4) : T D n y := ⟨h.1.2.2.2 y hy, by have := qE0 (d := D) hy; have := h.2; omega⟩
theorem T.len {D n : Nat} {x : S25} (h : T D n x) : x.f4.length ≤ n ∧ x.f5.length ≤ 100 := by
  cases D with
  | zero => exact h.1.elim
  | succ D => exact ⟨by have := qGn h.1; have := h.2; omega, h.1.2.1⟩
theorem qB9 (D : Nat) (x : S25) (h : T D 4000 x) : (mayV 16 x 0).2 = goodV 16 x := by
  have h1 := (qFp 16 x 0 (by omega)).1
  rw [Bool.eq_iff_iff, h1]
  exact ⟨fun h => h.1, fun hg => ⟨hg, by rw [qDv x hg h.1]; have := h.2; omega⟩⟩
theorem qEx : ∀ (d D : Nat) (x : S25), T D 4000 x → d ≤ 100 → ∃ r : Nat, Ev (fun k => hogsheadref15_Count.f k x.f0 x.f1 x.f2 x.f3 x.f4 x.f5 (d : Int)) (r : Int) ∧ 1 ≤ r ∧ r ≤ nodesV D x := by
  intro d
  induction d with
  | zero =>
    intro D x hT hd
    refine ⟨1, ⟨2, fun k hk => ?_⟩, Nat.le_refl _, qDw D x hT.1⟩
    obtain ⟨k, rfl⟩ : ∃ m, k = m + 2 := ⟨k - 2, by omega⟩
    simp only [hogsheadref15_Count.f, hogsheadref15_Count.l0]
    have hm : mn 1 4001 = 1 := by decide
    split
    · rw [if_pos (by omega), if_neg (by omega), hm]; rfl
    · rw [hm]; rfl
  | succ d ih =>
    intro D x hT hd
    cases D with
    | zero => exact hT.1.elim
    | succ D =>
      have hlen := hT.len.1
      have hloop : ∀ (j i n : Nat), x.f4.length - i = j → i ≤ x.f4.length → 1 ≤ n → n + ((x.f4.drop i).map (nodesV D)).sum ≤ 4000 → ∃ r : Nat, Ev (fun k => hogsheadref15_Count.l0 k ((d + 1 : Nat) : Int) (n : Int) (i : Int) x.f0 x.f1 x.f2 x.f3 x.f4 x.f5) (r : Int) ∧ 1 ≤ r ∧ r ≤ n + ((x.f4.drop i).map (nodesV D)).sum := by
        intro j
        induction j with
        | zero =>
          intro i n hj hi hn hs
          refine ⟨n, ⟨1, fun k hk => ?_⟩, hn, by omega⟩
          obtain ⟨k, rfl⟩ : ∃ m, k = m + 1 := ⟨k - 1, by omega⟩
          simp only [hogsheadref15_Count.l0]
          rw [if_neg (by omega)]
          congr 1
          unfold mn
          rw [if_neg (by omega)]
        | succ j ihj =>
          intro i n hj hi hn hs
          have hlt : i < x.f4.length := by omega
          obtain ⟨c, ⟨K1, hK1⟩, hc1, hc2⟩ := ih D x.f4[i] (hT.child (List.getElem_mem hlt)) (by omega)
          rw [List.drop_eq_getElem_cons hlt, List.map_cons, List.sum_cons] at hs ⊢
          obtain ⟨r, ⟨K2, hK2⟩, hr1, hr2⟩ := ihj (i + 1) (n + c) (by omega) (by omega) (by omega) (by omega)
          refine ⟨r, ⟨K1 + K2 + 1, fun k hk => ?_⟩, hr1, by omega⟩
          obtain ⟨k, rfl⟩ : ∃ m, k = m + 1 := ⟨k - 1, by omega⟩
          have hK1 := hK1 k (by omega)
          have hK2 := hK2 k (by omega)
          simp only at hK1 hK2
          have E1 : Aside0 (wrap64 (((d + 1 : Nat) : Int) - 1) = (d : Int)) := ⟨qBb (by omega) (by omega)⟩
          have E2 : Aside0 (wrap64 ((n : Int) + (c : Int)) = ((n + c : Nat) : Int)) := ⟨qBb (by omega) (by omega)⟩
          have E3 : Aside0 (wrap64 ((i : Int) + 1) = ((i + 1 : Nat) : Int)) := ⟨qBb (by omega) (by omega)⟩
          simp only [hogsheadref15_Count.l0]
          rw [if_pos (by omega), if_pos (by omega), if_pos (by omega), if_pos (by omega), qB1 x.f4 i hlt, E1.out, hK1]
          simp only [Option.bind_some]
          rw [E2.out, E3.out]
          exact hK2
      have hnode : 1 + (x.f4.map (nodesV D)).sum ≤ 4000 := hT.2
      obtain ⟨r, ⟨K, hK⟩, h1, h2⟩ := hloop x.f4.length 0 1 (by omega) (by omega) (by omega) (by rw [List.drop_zero]; exact hnode)
      rw [List.drop_zero] at h2
      refine ⟨r, ⟨K + 1, fun k hk => ?_⟩, h1, h2⟩
      obtain ⟨k, rfl⟩ : ∃ m, k = m + 1 := ⟨k - 1, by omega⟩
      simp only [hogsheadref15_Count.f]
      exact hK k (by omega)
def plainB (x : S25) : Bool := (x.f0 == 1 || !x.f1) && (x.f0 == 2 || x.f2 == 0) && (x.f0 == 3 || x.f3.size == 0) && (x.f0 == 4 || x.f0 == 5 || x.f4.isEmpty) && (x.f0 == 5 || x.f5.isEmpty)
theorem qHc (x : S25) : Ev (fun k => hogsheadref15_plain.f k x.f0 x.f1 x.f2 x.f3 x.f4 x.f5) (plainB x) := by
  refine ⟨1, fun k hk => ?_⟩
  obtain ⟨k, rfl⟩ : ∃ m, k = m + 1 := ⟨k - 1, by omega⟩
  have e3 : (x.f3.toList != ([] : List UInt8)) = !(x.f3.size == 0) := by
    rw [Bool.eq_iff_iff, bne_iff_ne, Bool.not_eq_true', beq_eq_false_iff_ne]
    exact not_congr (qDr x.f3)
  have e4 : x.f4.isEmpty = decide ((x.f4.length : Int) ≤ 0) := by cases x.f4 with
    | nil => rfl
    | cons a l => symm; simp only [List.isEmpty_cons]; exact decide_eq_false (by simp only [List.length_cons]; omega)
  have e5 : x.f5.isEmpty = ((x.f5.length : Int) == 0) := by cases x.f5 with
    | nil => rfl
    | cons a l => symm; simp only [List.isEmpty_cons]; exact beq_eq_false_iff_ne.2 (by simp only [List.length_cons]; omega)
  show hogsheadref15_plain.f _ x.f0 x.f1 x.f2 x.f3 x.f4 x.f5 = _
  unfold hogsheadref15_plain.f plainB
  rw [e3, e4, e5]
  simp only [hogsheadref15_plain.j0]
  have hk : x.f0 = 1 ∨ x.f0 = 2 ∨ x.f0 = 3 ∨ x.f0 = 4 ∨ x.f0 = 5 ∨ (x.f0 ≠ 1 ∧ x.f0 ≠ 2 ∧ x.f0 ≠ 3 ∧ x.f0 ≠ 4 ∧ x.f0 ≠ 5) := by omega
  generalize ((x.f5.length : Int) == 0) = b5
  generalize (x.f3.size == 0) = b3
  generalize (x.f4.length : Int) = n4
  generalize x.f1 = b1
  rcases hk with c | c | c | c | c | ⟨c1, c2, c3, c4, c5⟩ <;> cases b1 <;> cases b3 <;> cases b5 <;> by_cases c6 : x.f2 = 0 <;> by_cases c7 : n4 ≤ 0 <;> first | (simp [*]; done) | (simp [*, Int.not_le.1 c7, beq_false_of_ne c4, beq_false_of_ne c5]; done) | (simp [*]; omega)
theorem qC7 (x : S25) : qBc x = (plainB x && (decide (0 ≤ x.f0) && (decide (x.f0 ≤ 5) && (decide (-9007199254740992 ≤ x.f2) && (decide (x.f2 ≤ 9007199254740992) && ((x.f0 != 5 || x.f5.length == x.f4.length) && qAw x.f5)))))) := by
  have hr : x.f5.isEmpty = true → qAw x.f5 = true := by
    intro h
    rw [List.isEmpty_iff] at h
    rw [h]; rfl
  have hk : x.f0 = 0 ∨ x.f0 = 1 ∨ x.f0 = 2 ∨ x.f0 = 3 ∨ x.f0 = 4 ∨ x.f0 = 5 ∨ (x.f0 < 0 ∨ 5 < x.f0) := by omega
  unfold qBc plainB
  generalize (x.f5.length == x.f4.length) = bl at *
  generalize qAw x.f5 = r at *
  generalize x.f4.isEmpty = e4 at *
  generalize x.f5.isEmpty = e5 at *
  generalize (x.f3.size == 0) = b3
  generalize x.f1 = b1
  rcases hk with c | c | c | c | c | c | c
  · rw [c]; cases b1 <;> cases b3 <;> cases e4 <;> cases e5 <;> cases r <;> by_cases c6 : x.f2 = 0 <;> simp_all
  · rw [c]; cases b1 <;> cases b3 <;> cases e4 <;> cases e5 <;> cases r <;> by_cases c6 : x.f2 = 0 <;> simp_all
  · rw [c]; cases b1 <;> cases b3 <;> cases e4 <;> cases e5 <;> cases r <;> simp_all
  · rw [c]; cases b1 <;> cases b3 <;> cases e4 <;> cases e5 <;> cases r <;> by_cases c6 : x.f2 = 0 <;> simp_all
  · rw [c]; cases b1 <;> cases b3 <;> cases e4 <;> cases e5 <;> cases r <;> by_cases c6 : x.f2 = 0 <;> simp_all
  · rw [c]; cases b1 <;> cases b3 <;> cases e4 <;> cases e5 <;> cases r <;> by_cases c6 : x.f2 = 0 <;> simp_all [beq_false_of_ne]
  · have hf : decide (0 ≤ x.f0) = false ∨ decide (x.f0 ≤ 5) = false := by
      rcases c with c | c
      · exact .inl (decide_eq_false (by omega))
      · exact .inr (decide_eq_false (by omega))
    rw [if_neg (by omega), if_neg (by omega), if_neg (by omega), if_neg (by omega), Bool.and_false]
    rcases hf with h | h <;> simp [h]
theorem qGk (x : S25) (d : Nat) (g : S25 → Bool) (hn : x.f4.length ≤ 100000) (hd : d ≤ 100) (hc : ∀ y ∈ x.f4, Ev (fun k => hogsheadref15_may.f k y.f0 y.f1 y.f2 y.f3 y.f4 y.f5 (d : Int)) (g y)) :
    ∀ (j i : Nat), x.f4.length - i = j → i ≤ x.f4.length → Ev (fun k => hogsheadref15_may.l1 k ((d + 1 : Nat) : Int) (i : Int) x.f0 x.f1 x.f2 x.f3 x.f4 x.f5) ((x.f4.drop i).all g) := by
  intro j
  induction j with
  | zero =>
    intro i hj hi
    refine ⟨1, fun k hk => ?_⟩
    obtain ⟨k, rfl⟩ : ∃ m, k = m + 1 := ⟨k - 1, by omega⟩
    simp only [hogsheadref15_may.l1]
    rw [if_neg (by omega), List.drop_eq_nil_of_le (by omega)]
    rfl
  | succ j ih =>
    intro i hj hi
    have hlt : i < x.f4.length := by omega
    obtain ⟨K1, hK1⟩ := hc x.f4[i] (List.getElem_mem hlt)
    obtain ⟨K2, hK2⟩ := ih (i + 1) (by omega) (by omega)
    refine ⟨K1 + K2 + 1, fun k hk => ?_⟩
    obtain ⟨k, rfl⟩ : ∃ m, k = m + 1 := ⟨k - 1, by omega⟩
    have hK1 := hK1 k (by omega)
    have hK2 := hK2 k (by omega)
    simp only at hK1 hK2
    have E1 : Aside0 (wrap64 (((d + 1 : Nat) : Int) - 1) = (d : Int)) := ⟨qBb (by omega) (by omega)⟩
    have E3 : Aside0 (wrap64 ((i : Int) + 1) = ((i + 1 : Nat) : Int)) := ⟨qBb (by omega) (by omega)⟩
    simp only [hogsheadref15_may.l1]
    rw [if_pos (by omega), if_pos (by omega), qB1 x.f4 i hlt, E1.out, hK1, E3.out, hK2, List.drop_eq_getElem_cons hlt, List.all_cons]
    simp only [Option.bind_some]
    cases g x.f4[i]
    · rw [if_neg (by decide)]; rfl
    · rw [if_pos rfl]; rfl
theorem qGl (x : S25) (d : Nat) (g : S25 → Bool) (hn : x.f4.length ≤ 100000) (hn5 : x.f5.length ≤ 100000) (hd : d ≤ 100) (hc : ∀ y ∈ x.f4, Ev (fun k => hogsheadref15_may.f k y.f0 y.f1 y.f2 y.f3 y.f4 y.f5 (d : Int)) (g y)) :
    ∀ (j i : Nat), x.f5.length - i = j → 1 ≤ i → Ev (fun k => hogsheadref15_may.l0 k ((d + 1 : Nat) : Int) (i : Int) x.f0 x.f1 x.f2 x.f3 x.f4 x.f5) (qAw (x.f5.drop (i - 1)) && x.f4.all g) := by
  obtain ⟨K0, hK0⟩ := qGk x d g hn hd hc x.f4.length 0 (by omega) (by omega)
  rw [List.drop_zero] at hK0
  intro j
  induction j with
  | zero =>
    intro i hj hi
    refine ⟨K0 + 1, fun k hk => ?_⟩
    obtain ⟨k, rfl⟩ : ∃ m, k = m + 1 := ⟨k - 1, by omega⟩
    have hK0 := hK0 k (by omega)
    simp only at hK0
    simp only [hogsheadref15_may.l0]
    rw [if_neg (by omega)]
    have : (x.f5.drop (i - 1)).length ≤ 1 := by rw [List.length_drop]; omega
    generalize x.f5.drop (i - 1) = m at *
    have hm : qAw m = true := by
      match m, this with
      | [], _ => rfl
      | [a], _ => rfl
    rw [hm, Bool.true_and]
    exact hK0
  | succ j ih =>
    intro i hj hi
    have hlt : i < x.f5.length := by omega
    have hlt2 : i - 1 < x.f5.length := by omega
    obtain ⟨K, hK⟩ := ih (i + 1) (by omega) (by omega)
    refine ⟨K + 1, fun k hk => ?_⟩
    obtain ⟨k, rfl⟩ : ∃ m, k = m + 1 := ⟨k - 1, by omega⟩
    have hK := hK k (by omega)
    simp only at hK
    have E1 : Aside0 (wrap64 ((i : Int) - 1) = ((i - 1 : Nat) : Int)) := ⟨qBb (by omega) (by omega)⟩
    have E3 : Aside0 (wrap64 ((i : Int) + 1) = ((i + 1 : Nat) : Int)) := ⟨qBb (by omega) (by omega)⟩
    simp only [hogsheadref15_may.l0]
    rw [if_pos (by omega), E1.out, if_pos (by omega), if_pos (by omega), if_pos (by omega), qAz x.f5 (i - 1) hlt2, qAz x.f5 i hlt, E3.out, hK]
    have e1 : x.f5.drop (i - 1) = x.f5[i - 1] :: x.f5.drop i := by rw [List.drop_eq_getElem_cons hlt2]; congr 2; omega
    have e2 : x.f5.drop i = x.f5[i] :: x.f5.drop (i + 1) := List.drop_eq_getElem_cons hlt
    have e3 : i + 1 - 1 = i := by omega
    rw [e1, e3, e2]
    show _ = some ((Op.bytesLess x.f5[i - 1].toList x.f5[i].toList && qAw (x.f5[i] :: x.f5.drop (i + 1))) && x.f4.all g)
    cases Op.bytesLess x.f5[i - 1].toList x.f5[i].toList
    · rw [if_neg (by simp)]; rfl
    · rw [if_pos rfl]; rfl
theorem qGj : ∀ (d : Nat) (x : S25), (∃ D, T D 4000 x) → d ≤ 100 → Ev (fun k => hogsheadref15_may.f k x.f0 x.f1 x.f2 x.f3 x.f4 x.f5 (d : Int)) (goodV d x) := by
  intro d
  induction d with
  | zero =>
    intro x _ _
    refine ⟨2, fun k hk => ?_⟩
    obtain ⟨k, rfl⟩ : ∃ m, k = m + 2 := ⟨k - 2, by omega⟩
    simp only [hogsheadref15_may.f, hogsheadref15_may.j0]
    rw [if_pos (by omega), if_pos trivial]
    rfl
  | succ d ih =>
    intro x hT hd
    obtain ⟨D, hT⟩ := hT
    have hl := hT.len
    have hch : ∀ y ∈ x.f4, Ev (fun k => hogsheadref15_may.f k y.f0 y.f1 y.f2 y.f3 y.f4 y.f5 (d : Int)) (goodV d y) := fun y hy => by
      cases D with
      | zero => exact hT.1.elim
      | succ D => exact ih y ⟨D, hT.child hy⟩ (by omega)
    obtain ⟨K1, hK1⟩ := qHc x
    obtain ⟨K2, hK2⟩ := qGl x d (goodV d) (by omega) (by omega) (by omega) hch (x.f5.length - 1) 1 rfl (by omega)
    refine ⟨K1 + K2 + 3, fun k hk => ?_⟩
    obtain ⟨k, rfl⟩ : ∃ m, k = m + 3 := ⟨k - 3, by omega⟩
    have hK1 := hK1 (k + 2) (by omega)
    have hK2 := hK2 k (by omega)
    simp only [Nat.sub_self, List.drop_zero] at hK1 hK2
    rw [show ((1 : Nat) : Int) = 1 from rfl] at hK2
    rw [goodV, qC7]
    simp only [hogsheadref15_may.f]
    rw [if_neg (by omega), hK1]
    simp only [Option.bind_some]
    cases hp : plainB x
    · rw [if_neg (by decide)]
      simp only [hogsheadref15_may.j0]
      rw [if_pos trivial]; rfl
    · rw [if_pos rfl]
      by_cases c1 : x.f0 < 0
      · rw [if_pos c1, decide_eq_false (by omega)]
        simp only [hogsheadref15_may.j0]
        rw [if_pos trivial]; rfl
      · rw [if_neg c1, decide_eq_true (by omega : 0 ≤ x.f0)]
        by_cases c2 : x.f0 > 5
        · rw [if_pos c2, decide_eq_false (by omega)]
          simp only [hogsheadref15_may.j0]
          rw [if_pos trivial]; rfl
        · rw [if_neg c2, decide_eq_true (by omega : x.f0 ≤ 5)]
          by_cases c3 : x.f2 < -9007199254740992
          · rw [if_pos c3, decide_eq_false (by omega)]
            simp only [hogsheadref15_may.j0]
            rw [if_pos trivial]; rfl
          · rw [if_neg c3, decide_eq_true (by omega : -9007199254740992 ≤ x.f2)]
            simp only [hogsheadref15_may.j0]
            by_cases c4 : x.f2 > 9007199254740992
            · rw [if_pos (decide_eq_true c4), decide_eq_false (by omega : ¬ x.f2 ≤ 9007199254740992)]; rfl
            · rw [if_neg (by rw [decide_eq_true_eq]; exact c4), decide_eq_true (by omega : x.f2 ≤ 9007199254740992)]
              simp only [Bool.true_and]
              by_cases c5 : x.f0 = 5
              · rw [if_pos c5]
                simp only [hogsheadref15_may.j1]
                by_cases c6 : x.f5.length = x.f4.length
                · rw [if_neg (by simp [c6]), hK2, c5]
                  simp [c6]
                · rw [if_pos (by simp; omega), c5]
                  simp [c6]
              · rw [if_neg c5]
                simp only [hogsheadref15_may.j1]
                rw [if_neg (by decide), hK2]
                have : (x.f0 != 5) = true := by simp [c5]
                rw [this]; simp
theorem qGm (D : Nat) (x : S25) (hT : T D 4000 x) : Ev (fun k => hogsheadref15_May.f k x.f0 x.f1 x.f2 x.f3 x.f4 x.f5) (goodV 16 x) := by
  obtain ⟨r, ⟨K1, hK1⟩, h1, h2⟩ := qEx 20 D x hT (by omega)
  obtain ⟨K2, hK2⟩ := qGj 16 x ⟨D, hT⟩ (by omega)
  refine ⟨K1 + K2, fun k hk => ?_⟩
  have hK1 := hK1 k (by omega)
  have hK2 := hK2 k (by omega)
  simp only at hK1 hK2
  have h3 := hT.2
  show hogsheadref15_May.f k _ _ _ _ _ _ = _
  unfold hogsheadref15_May.f
  rw [show (20 : Int) = ((20 : Nat) : Int) from rfl, hK1]
  simp only [Option.bind_some]
  rw [if_pos (by omega), show (16 : Int) = ((16 : Nat) : Int) from rfl, hK2]
  rfl
end Go.Proofs.YtbnoihpooeombaaDoor.X

namespace Go.Proofs.YtbnoihpooeombaaDoor.P
open Go.Proofs.YtbnoihpooeombaaDoor.X
open Go.RowKit Go.Proofs.YtbnoihpooeombaaDoorW.PrintWords Go.Proofs.YtbnoihpooeombaaDoorW.PrintLast Go.Proofs.YtbnoihpooeombaaDoorW.PrintMore
attribute [local go_sem] qAr qAx
set_option linter.unusedVariables false
set_option linter.unusedSimpArgs false
def strconv_FormatBool_93.f (a0 : Bool) : Option (ByteArray) := if a0 = true then (some (⟨#[116, 114, 117, 101]⟩ : ByteArray)) else (some (⟨#[102, 97, 108, 115, 101]⟩ : ByteArray))
set_option maxHeartbeats 8000000 in
set_option maxRecDepth 100000 in
theorem strconv_FormatBool_93.calls (a0 : Bool) (r : ByteArray) (w : World) (h : strconv_FormatBool_93.f a0 = some r) :
  Calls Tryd.prog 93 #[.bool a0] w fun e w' => e = .returned (.string r) ∧ Drawn0 w w' := by
 have H : (if a0 = true then (some (⟨#[116, 114, 117, 101]⟩ : ByteArray)) else (some (⟨#[102, 97, 108, 115, 101]⟩ : ByteArray))) = some r := h
 clear h
 by_cases c2 : a0 = true
 ·subst c2
  have H1 : (some (⟨#[116, 114, 117, 101]⟩ : ByteArray)) = some r := by rw [if_pos rfl] at H; exact H
  clear H
  have H := H1
  clear H1
  obtain rfl := Option.some.inj H
  go_enter Tryd.func93, Tryd.ntmps93
  go_wp2
  go_ret
  exact ⟨by first | rfl | (simp; done) | (simp [*]; done), by repeat (first | exact Drawn0.refl _ | apply Drawn0.step)⟩
 ·replace c2 := Bool.eq_false_iff.mpr c2
  subst c2
  have H1 : (some (⟨#[102, 97, 108, 115, 101]⟩ : ByteArray)) = some r := by rw [if_neg (show ¬ (false = true) by decide)] at H; exact H
  clear H
  have H := H1
  clear H1
  obtain rfl := Option.some.inj H
  go_enter Tryd.func93, Tryd.ntmps93
  go_wp2
  go_ret
  exact ⟨by first | rfl | (simp; done) | (simp [*]; done), by repeat (first | exact Drawn0.refl _ | apply Drawn0.step)⟩
end Go.Proofs.YtbnoihpooeombaaDoor.P

namespace Go.Proofs.YtbnoihpooeombaaDoor.P
open Go.Proofs.YtbnoihpooeombaaDoor.X
open Go.RowKit Go.Proofs.YtbnoihpooeombaaDoorW.PrintWords Go.Proofs.YtbnoihpooeombaaDoorW.PrintLast Go.Proofs.YtbnoihpooeombaaDoorW.PrintMore
attribute [local go_sem] qAr qAx
set_option linter.unusedVariables false
set_option linter.unusedSimpArgs false
def strconv_FormatBool_66.f (a0 : Bool) : Option (ByteArray) := (strconv_FormatBool_93.f a0).bind fun t135 => (some t135)
set_option maxHeartbeats 8000000 in
set_option maxRecDepth 100000 in
theorem strconv_FormatBool_66.calls (a0 : Bool) (r : ByteArray) (w : World) (h : strconv_FormatBool_66.f a0 = some r) :
  Calls Tryd.prog 66 #[.bool a0] w fun e w' => e = .returned (.string r) ∧ Drawn0 w w' := by
 have H : ((strconv_FormatBool_93.f a0).bind fun t135 => (some t135)) = some r := h
 clear h
 replace H := Option.bind_eq_some_iff.mp H
 obtain ⟨t135, A20, H⟩ := H
 replace H : (some t135) = some r := H
 have A2 := Aside0.mk A20
 clear A20
 obtain rfl := Option.some.inj H
 go_enter Tryd.func66, Tryd.ntmps66
 go_wp2_with (first | ((with_reducible refine qAp (f := 93) rfl ?_); refine goesL_ (some 4) rfl rfl Tryd.func93 (by kernel_rfl) rfl #[.bool a0] rfl (by (try simp only [List.map_toArray, List.map_cons, List.map_nil]); first | done | rfl | (simp only [List.length_drop, List.length_take]; rfl)) ?_; (with_reducible refine (strconv_FormatBool_93.calls a0 t135 _ A2.out).mono ?_); rintro e w' ⟨rfl, ⟨nd, rfl⟩⟩; refine ⟨_, rfl, ?_⟩))
 go_ret
 exact ⟨by first | rfl | (simp; done) | (simp [*]; done), by repeat (first | exact Drawn0.refl _ | apply Drawn0.step)⟩
end Go.Proofs.YtbnoihpooeombaaDoor.P

namespace Go.Proofs.YtbnoihpooeombaaDoor.X
open Go.RowKit Go.Proofs.YtbnoihpooeombaaDoorW.PrintWords
set_option linter.unusedVariables false
set_option linter.unusedSimpArgs false
theorem e16 : IntKind.u64.wrap (bits BinOp.and IntKind.u64 16 (IntKind.u64.wrap (-16)) * 285870213051353865) / 288230376151711744 = 15 := by decide +kernel
def strconv_FormatUint.f (a0 a1 : Int) : Option ByteArray := if 0 ≤ a0 ∧ a0 < 18446744073709551616 ∧ a1 = 16 then some ⟨(qFu 16 a0.toNat).toArray⟩ else none
def strings_Repeat.f (a0 : ByteArray) (a1 : Int) : Option ByteArray := if 0 ≤ a1 ∧ a1 ≤ 9223372036854775807 ∧ a0.size * a1.toNat ≤ 140737488355328 then some ⟨(Lib.repeatL a0.data.toList a1.toNat).toArray⟩ else none
end Go.Proofs.YtbnoihpooeombaaDoor.X

namespace Go.Proofs.YtbnoihpooeombaaDoor.X
open Go.RowKit Go.Proofs.YtbnoihpooeombaaDoorW.PrintWords
set_option linter.unusedVariables false
set_option linter.unusedSimpArgs false
theorem qGb {w : World} {ad : Addr} {v : Value} (h : w.cell? ad = some v) : ad = ⟨ad.block, ad.off, none⟩ ∧ ad.block < w.heap.size := by
  unfold World.cell? at h
  split at h
  · rename_i c t f hc
    split at h
    · cases h
    · rename_i hs
      obtain ⟨b, o, s⟩ := ad
      cases s with
      | none => exact ⟨rfl, by
          rcases Nat.lt_or_ge b w.heap.size with h' | h'
          · exact h'
          · simp [Array.getElem?_eq_none h'] at hc⟩
      | some s => exact absurd rfl hs
  · cases h
def joinB (l : List ByteArray) (s : ByteArray) : ByteArray := ⟨(Lib.join (l.map (·.data.toList)) s.data.toList).toArray⟩
def strings_Join.f (l0 : List ByteArray) (a1 : ByteArray) : Option ByteArray := if (joinB l0 a1).size ≤ 140737488355328 ∧ l0.length ≤ 140737488355328 then some (joinB l0 a1) else none
theorem strings_Join.calls (A0 : Option Addr) (c0 : Nat) (l0 : List ByteArray) (a1 r : ByteArray) (w : World) (hr0 : Kd.C Kd.string w A0 l0.length l0) (hc0 : l0.length ≤ c0) (h : strings_Join.f l0 a1 = some r) :
    Calls Tryd.prog 68 #[.slice A0 l0.length c0, .string a1] w fun e w' => e = .returned (.string r) ∧ Below w.heap.size w w' := by
  unfold strings_Join.f at h
  split at h
  · rename_i hc
    cases h
    by_cases h0 : l0.length = 0
    · have h1 : l0 = [] := List.length_eq_zero_iff.1 h0
      subst h1
      exact (Tryd.strings_Join_none A0 c0 a1 w).mono fun e w' ⟨he, hw⟩ => ⟨he.trans rfl, hw ▸ Below.refl _ _⟩
    · obtain ⟨ad, rfl, h1⟩ := Kd.at_string hr0 0 (by omega) (by omega)
      have had : ad = ⟨ad.block, ad.off, none⟩ ∧ ad.block < w.heap.size := qGb h1
      obtain ⟨hp, ip⟩ := had
      generalize ad.block = bk at *
      generalize ad.off = o at *
      subst hp
      exact Tryd.strings_Join bk o c0 l0 a1 w (fun j x hj => by
        have hlt : j < l0.length := by
          rcases Nat.lt_or_ge j l0.length with h | h
          · exact h
          · rw [List.getElem?_eq_none h] at hj; cases hj
        obtain ⟨ad2, e, h2⟩ := Kd.at_string hr0 (j : Int) (by omega) (by omega)
        cases e
        have e3 : rdOf ByteArray.empty l0 (j : Int) = x := by simp [rdOf, List.getD_eq_getElem?_getD, hj]
        rw [e3] at h2
        have e4 : (⟨bk, o, none⟩ : Addr).add (j : Int).toNat = ⟨bk, o + j, none⟩ := by
          unfold Addr.add
          by_cases c : j = 0
          · subst c; simp
          · rw [if_neg (by omega)]; simp
        rw [e4] at h2
        exact h2) ip hc.2 hc0 (by have := hc.1; simpa [joinB, ByteArray.size] using this)
  · cases h
def strconv_Itoa.f (a0 : Int) : Option ByteArray := if -9223372036854775808 ≤ a0 ∧ a0 ≤ 9223372036854775807 then some ⟨(Lib.itoa a0).toArray⟩ else none
theorem strconv_Itoa.calls (a0 : Int) (r : ByteArray) (w : World) (hT : Aside0 (Tabs w)) (h : strconv_Itoa.f a0 = some r) :
    Calls Tryd.prog 67 #[.int .i64 a0] w fun e w' => e = .returned (.string r) ∧ Below w.heap.size w w' := by
  unfold strconv_Itoa.f at h
  split at h
  · rename_i hc
    cases h
    exact (Tryd.strconv_Itoa a0 hc.1 hc.2 w hT.out.pow).mono fun e w' ⟨he, k, os, hw⟩ => ⟨he, by rw [hw]; exact Lib.below_grow _ w (Nat.le_refl _) k os⟩
  · cases h
end Go.Proofs.YtbnoihpooeombaaDoor.X

namespace Go.Proofs.YtbnoihpooeombaaDoor.P
open Go.Proofs.YtbnoihpooeombaaDoor.X
open Go.RowKit Go.Proofs.YtbnoihpooeombaaDoorW.PrintWords Go.Proofs.YtbnoihpooeombaaDoorW.PrintLast Go.Proofs.YtbnoihpooeombaaDoorW.PrintMore
attribute [local go_sem] qAr qAx
set_option linter.unusedVariables false
set_option linter.unusedSimpArgs false
mutual
def value_text.j0 : Nat → Bool → Int → Bool → Int → ByteArray → List (S25) → List ByteArray → Option (ByteArray)
 | 0, _, _, _, _, _, _, _ => none
 | k + 1, x25, x137000, x137001, x137002, x137003, x137004, x137005 => if x25 = true then (value_text.l0 k ([] : List ByteArray) x137004 (x137004.length : Int) 0 x137000 x137001 x137002 x137003 x137004 x137005) else (some (⟨#[110, 117, 108, 108]⟩ : ByteArray))
def value_text.l0 : Nat → List ByteArray → List (S25) → Int → Int → Int → Bool → Int → ByteArray → List (S25) → List ByteArray → Option (ByteArray)
 | 0, _, _, _, _, _, _, _, _, _, _ => none
 | k + 1, x3, x29, x30, x31, x137000, x137001, x137002, x137003, x137004, x137005 => if x31 < x30 then (if 0 ≤ x31 then (if x31 < (x29.length : Int) then ((value_text.f k ((rd_T25 x29 x31).f0) ((rd_T25 x29 x31).f1) ((rd_T25 x29 x31).f2) ((rd_T25 x29 x31).f3) ((rd_T25 x29 x31).f4) ((rd_T25 x29 x31).f5)).bind fun t143 => (if x137000 = 5 then (if x31 < (x137005.length : Int) then ((value_Quote.f k (rdOf ByteArray.empty x137005 x31)).bind fun t145 => (if t145.size + 1 ≤ 9223372036854775807 then (if (t145 ++ (⟨#[58]⟩ : ByteArray)).size + t143.size ≤ 9223372036854775807 then (if x3.length < 8796093022208 then (value_text.l0 k (x3 ++ [(t145 ++ (⟨#[58]⟩ : ByteArray)) ++ t143]) x29 x30 (wrap64 (x31 + 1)) x137000 x137001 x137002 x137003 x137004 x137005) else (none)) else (none)) else (none))) else (none)) else (if x3.length < 8796093022208 then (value_text.l0 k (x3 ++ [t143]) x29 x30 (wrap64 (x31 + 1)) x137000 x137001 x137002 x137003 x137004 x137005) else (none)))) else (none)) else (none)) else ((strings_Join.f x3 (⟨#[44]⟩ : ByteArray)).bind fun t140 => (if x137000 = 5 then (if 1 + t140.size ≤ 9223372036854775807 then (if ((⟨#[123]⟩ : ByteArray) ++ t140).size + 1 ≤ 9223372036854775807 then (some (((⟨#[123]⟩ : ByteArray) ++ t140) ++ (⟨#[125]⟩ : ByteArray))) else (none)) else (none)) else (if 1 + t140.size ≤ 9223372036854775807 then (if ((⟨#[91]⟩ : ByteArray) ++ t140).size + 1 ≤ 9223372036854775807 then (some (((⟨#[91]⟩ : ByteArray) ++ t140) ++ (⟨#[93]⟩ : ByteArray))) else (none)) else (none))))
def value_text.f : Nat → Int → Bool → Int → ByteArray → List (S25) → List ByteArray → Option (ByteArray)
 | 0, _, _, _, _, _, _ => none
 | k + 1, a0_0, a0_1, a0_2, a0_3, l0_4, l0_5 => if a0_0 = 1 then ((strconv_FormatBool_66.f a0_1).bind fun t137 => (some t137)) else (if a0_0 = 2 then ((strconv_Itoa.f a0_2).bind fun t138 => (some t138)) else (if a0_0 = 3 then ((value_Quote.f k a0_3).bind fun t139 => (some t139)) else (if a0_0 = 4 then (value_text.j0 k (a0_0 == 4) a0_0 a0_1 a0_2 a0_3 l0_4 l0_5) else (value_text.j0 k (a0_0 == 5) a0_0 a0_1 a0_2 a0_3 l0_4 l0_5))))
end
theorem value_text.mono_l : ∀ k, (∀ y0 y1 y2 y3 y4 y5, LeO (value_text.f k y0 y1 y2 y3 y4 y5) (value_text.f (k + 1) y0 y1 y2 y3 y4 y5)) ∧ (∀ y0 y1 y2 y3 y4 y5 y6, LeO (value_text.j0 k y0 y1 y2 y3 y4 y5 y6) (value_text.j0 (k + 1) y0 y1 y2 y3 y4 y5 y6)) ∧ (∀ y0 y1 y2 y3 y4 y5 y6 y7 y8 y9, LeO (value_text.l0 k y0 y1 y2 y3 y4 y5 y6 y7 y8 y9) (value_text.l0 (k + 1) y0 y1 y2 y3 y4 y5 y6 y7 y8 y9))
 | 0 => ⟨fun _ _ _ _ _ _ r h => by simp [value_text.f] at h, fun _ _ _ _ _ _ _ r h => by simp [value_text.j0] at h, fun _ _ _ _ _ _ _ _ _ _ r h => by simp [value_text.l0] at h⟩
 | k + 1 => by
  obtain ⟨ih0, ih1, ih2⟩ := value_text.mono_l k
  refine ⟨?_, ?_, ?_⟩
  ·intro y0 y1 y2 y3 y4 y5
   unfold value_text.f
   repeat' first
   | (with_reducible exact ih0 _ _ _ _ _ _)
   | (with_reducible exact ih1 _ _ _ _ _ _ _)
   | (with_reducible exact ih2 _ _ _ _ _ _ _ _ _ _)
   | (with_reducible exact value_Quote.mono _ _)
   | (with_reducible exact LeO.refl _)
   | (with_reducible exact LeO.none _)
   | (with_reducible refine LeO.ite ?_ ?_)
   | (with_reducible refine LeO.bind ?_ (fun _ => ?_))
   | exact ih0 _ _ _ _ _ _
   | exact ih1 _ _ _ _ _ _ _
   | exact ih2 _ _ _ _ _ _ _ _ _ _
   | exact value_Quote.mono _ _
   | exact LeO.none _
   | refine LeO.ite ?_ ?_
   | refine LeO.bind ?_ (fun _ => ?_)
  ·intro y0 y1 y2 y3 y4 y5 y6
   unfold value_text.j0
   repeat' first
   | (with_reducible exact ih0 _ _ _ _ _ _)
   | (with_reducible exact ih1 _ _ _ _ _ _ _)
   | (with_reducible exact ih2 _ _ _ _ _ _ _ _ _ _)
   | (with_reducible exact value_Quote.mono _ _)
   | (with_reducible exact LeO.refl _)
   | (with_reducible exact LeO.none _)
   | (with_reducible refine LeO.ite ?_ ?_)
   | (with_reducible refine LeO.bind ?_ (fun _ => ?_))
   | exact ih0 _ _ _ _ _ _
   | exact ih1 _ _ _ _ _ _ _
   | exact ih2 _ _ _ _ _ _ _ _ _ _
   | exact value_Quote.mono _ _
   | exact LeO.none _
   | refine LeO.ite ?_ ?_
   | refine LeO.bind ?_ (fun _ => ?_)
  ·intro y0 y1 y2 y3 y4 y5 y6 y7 y8 y9
   unfold value_text.l0
   repeat' first
   | (with_reducible exact ih0 _ _ _ _ _ _)
   | (with_reducible exact ih1 _ _ _ _ _ _ _)
   | (with_reducible exact ih2 _ _ _ _ _ _ _ _ _ _)
   | (with_reducible exact value_Quote.mono _ _)
   | (with_reducible exact LeO.refl _)
   | (with_reducible exact LeO.none _)
   | (with_reducible refine LeO.ite ?_ ?_)
   | (with_reducible refine LeO.bind ?_ (fun _ => ?_))
   | exact ih0 _ _ _ _ _ _
   | exact ih1 _ _ _ _ _ _ _
   | exact ih2 _ _ _ _ _ _ _ _ _ _
   | exact value_Quote.mono _ _
   | exact LeO.none _
   | refine LeO.ite ?_ ?_
   | refine LeO.bind ?_ (fun _ => ?_)
theorem value_text.mono : ∀ a0 a1 a2 a3 a4 a5 k, LeO (value_text.f k a0 a1 a2 a3 a4 a5) (value_text.f (k + 1) a0 a1 a2 a3 a4 a5) := by
 intro a0 a1 a2 a3 a4 a5 k
 obtain ⟨ih0, ih1, ih2⟩ := value_text.mono_l k
 exact ih0 a0 a1 a2 a3 a4 a5
set_option maxHeartbeats 8000000 in
set_option maxRecDepth 100000 in
theorem value_text.calls (k : Nat) : ∀ (a0_0 : Int) (a0_1 : Bool) (a0_2 : Int) (a0_3 : ByteArray) (A0_4 : Option Addr) (c0_4 : Nat) (l0_4 : List (S25)) (A0_5 : Option Addr) (c0_5 : Nat) (l0_5 : List ByteArray) (r : ByteArray) (w : World) (hT : Aside0 (Tabs w)) (hr0_4 : Kd.C k25 w A0_4 l0_4.length l0_4) (hc0_4 : l0_4.length ≤ c0_4) (hr0_5 : Kd.C Kd.string w A0_5 l0_5.length l0_5) (hc0_5 : l0_5.length ≤ c0_5) (h : value_text.f k a0_0 a0_1 a0_2 a0_3 l0_4 l0_5 = some r),
  Calls Tryd.prog 47 #[.agg #[.int .i64 a0_0, .bool a0_1, .int .i64 a0_2, .string a0_3, .slice A0_4 l0_4.length c0_4, .slice A0_5 l0_5.length c0_5]] w fun e w' => e = .returned (.string r) ∧ Below w.heap.size w w' := by
 induction k using Nat.strongRecOn with
 | _ k ih =>
 intro a0_0 a0_1 a0_2 a0_3 A0_4 c0_4 l0_4 A0_5 c0_5 l0_5 r w hT hr0_4 hc0_4 hr0_5 hc0_5 h
 cases k with
 | zero => exact absurd h (by simp [value_text.f])
 | succ k =>
 simp only [value_text.f] at h
 have hu25 := Tryd.underlying25
 have HR0_4 := Aside0.mk hr0_4
 have HC0_4 := Aside0.mk hc0_4
 clear hr0_4 hc0_4
 have HR0_5 := Aside0.mk hr0_5
 have HC0_5 := Aside0.mk hc0_5
 clear hr0_5 hc0_5
 have HB := Aside0.mk (Below.refl w.heap.size w)
 have H : (if a0_0 = 1 then ((strconv_FormatBool_66.f a0_1).bind fun t137 => (some t137)) else (if a0_0 = 2 then ((strconv_Itoa.f a0_2).bind fun t138 => (some t138)) else (if a0_0 = 3 then ((value_Quote.f k a0_3).bind fun t139 => (some t139)) else (if a0_0 = 4 then (value_text.j0 k (a0_0 == 4) a0_0 a0_1 a0_2 a0_3 l0_4 l0_5) else (value_text.j0 k (a0_0 == 5) a0_0 a0_1 a0_2 a0_3 l0_4 l0_5))))) = some r := h
 clear h
 by_cases c2 : a0_0 = 1
 ·rw [if_pos c2] at H
  have c2b0 : (a0_0 == 1) = true := beq_iff_eq.mpr c2
  have c2b1 : (a0_0 != 1) = false := bne_eq_false_iff_eq.mpr c2
  clear c2
  replace H := Option.bind_eq_some_iff.mp H
  obtain ⟨t137, A30, H⟩ := H
  replace H : (some t137) = some r := H
  have A3 := Aside0.mk A30
  clear A30
  obtain rfl := Option.some.inj H
  go_enter Tryd.func47, Tryd.ntmps47
  go_wp2_with (first | ((with_reducible refine qAy (N := 1) rfl ?_); refine qAv ?hg (N := 1) ?hd (cs := #[.int .i64 a0_0, .bool a0_1, .int .i64 a0_2, .string a0_3, .slice A0_4 l0_4.length c0_4, .slice A0_5 l0_5.length c0_5]) (t := 25) ?hr ?_; (case hd => rfl); (case hg => rfl); (case hr => first | (go_simp; done) | (go_simp; rfl)); intro gb136 hg w4 hbox hb; have n0_ := Aside0.mk (qAj (by repeat (first | (with_reducible first | exact HB.out | apply qAd | apply qAc | apply qAe) | exact HB.out)) hb); have n1_ := Aside0.mk (hbox); have n2_ := Aside0.mk ((by rw [hg]; exact (qAn (by repeat (first | (with_reducible first | exact HB.out | apply qAd | apply qAc | apply qAe) | exact HB.out))) : w.heap.size ≤ gb136)); have n3_ := Aside0.mk ((by rw [hg]; exact (qAn (by repeat (first | (with_reducible first | exact HB.out | apply qAd | apply qAc | apply qAe) | exact HB.out))) : w.heap.size ≤ gb136)); clear HB; have HB := n0_; have BK136 := n1_; have GW136 := n2_; have GE136 := n3_; clear n0_ n1_ n2_ n3_; clear hb hbox hg; have hcz5_0 : w4.cell? ⟨gb136, 0, none⟩ = some (.int .i64 a0_0) := (qAb BK136.out 0).trans rfl; have hcz5_1 : w4.cell? ⟨gb136, 1, none⟩ = some (.bool a0_1) := (qAb BK136.out 1).trans rfl; have hcz5_2 : w4.cell? ⟨gb136, 2, none⟩ = some (.int .i64 a0_2) := (qAb BK136.out 2).trans rfl; have hcz5_3 : w4.cell? ⟨gb136, 3, none⟩ = some (.string a0_3) := (qAb BK136.out 3).trans rfl; have hcz5_4 : w4.cell? ⟨gb136, 4, none⟩ = some (.slice A0_4 l0_4.length c0_4) := (qAb BK136.out 4).trans rfl; have hcz5_5 : w4.cell? ⟨gb136, 5, none⟩ = some (.slice A0_5 l0_5.length c0_5) := (qAb BK136.out 5).trans rfl; have hfz5_0 := qAa BK136.out 0; have hfz5_1 := qAa BK136.out 1; have hfz5_2 := qAa BK136.out 2; have hfz5_3 := qAa BK136.out 3; have hfz5_4 := qAa BK136.out 4; have hfz5_5 := qAa BK136.out 5) | ((with_reducible refine qAp (f := 66) rfl ?_); refine goesL_ (some 14) rfl rfl Tryd.func66 (by kernel_rfl) rfl #[.bool a0_1] rfl (by (try simp only [List.map_toArray, List.map_cons, List.map_nil]); first | done | rfl | (simp only [List.length_drop, List.length_take]; rfl)) ?_; (with_reducible refine (strconv_FormatBool_66.calls a0_1 t137 _ A3.out).mono ?_); rintro e w' ⟨rfl, ⟨nd, rfl⟩⟩; refine ⟨_, rfl, ?_⟩))
  go_ret
  exact ⟨by first | rfl | (simp [qAl, qAk] <;> rfl) | (simp [*, qAl, qAk] <;> rfl), by repeat (first | (with_reducible first | exact HB.out | apply qAd | apply qAc | apply qAe | refine qAf ?_ GE136.out) | exact HB.out)⟩
 ·rw [if_neg c2] at H
  have c2b0 : (a0_0 == 1) = false := beq_eq_false_iff_ne.mpr c2
  have c2b1 : (a0_0 != 1) = true := bne_iff_ne.mpr c2
  by_cases c6 : a0_0 = 2
  ·rw [if_pos c6] at H
   have c6b0 : (a0_0 == 2) = true := beq_iff_eq.mpr c6
   have c6b1 : (a0_0 != 2) = false := bne_eq_false_iff_eq.mpr c6
   clear c6
   replace H := Option.bind_eq_some_iff.mp H
   obtain ⟨t138, A70, H⟩ := H
   replace H : (some t138) = some r := H
   have A7 := Aside0.mk A70
   clear A70
   obtain rfl := Option.some.inj H
   go_enter Tryd.func47, Tryd.ntmps47
   go_wp2_with (first | ((with_reducible refine qAy (N := 1) rfl ?_); refine qAv ?hg (N := 1) ?hd (cs := #[.int .i64 a0_0, .bool a0_1, .int .i64 a0_2, .string a0_3, .slice A0_4 l0_4.length c0_4, .slice A0_5 l0_5.length c0_5]) (t := 25) ?hr ?_; (case hd => rfl); (case hg => rfl); (case hr => first | (go_simp; done) | (go_simp; rfl)); intro gb136 hg w8 hbox hb; have n0_ := Aside0.mk (qAj (by repeat (first | (with_reducible first | exact HB.out | apply qAd | apply qAc | apply qAe) | exact HB.out)) hb); have n1_ := Aside0.mk (hbox); have n2_ := Aside0.mk ((by rw [hg]; exact (qAn (by repeat (first | (with_reducible first | exact HB.out | apply qAd | apply qAc | apply qAe) | exact HB.out))) : w.heap.size ≤ gb136)); have n3_ := Aside0.mk ((by rw [hg]; exact (qAn (by repeat (first | (with_reducible first | exact HB.out | apply qAd | apply qAc | apply qAe) | exact HB.out))) : w.heap.size ≤ gb136)); clear HB; have HB := n0_; have BK136 := n1_; have GW136 := n2_; have GE136 := n3_; clear n0_ n1_ n2_ n3_; clear hb hbox hg; have hcz9_0 : w8.cell? ⟨gb136, 0, none⟩ = some (.int .i64 a0_0) := (qAb BK136.out 0).trans rfl; have hcz9_1 : w8.cell? ⟨gb136, 1, none⟩ = some (.bool a0_1) := (qAb BK136.out 1).trans rfl; have hcz9_2 : w8.cell? ⟨gb136, 2, none⟩ = some (.int .i64 a0_2) := (qAb BK136.out 2).trans rfl; have hcz9_3 : w8.cell? ⟨gb136, 3, none⟩ = some (.string a0_3) := (qAb BK136.out 3).trans rfl; have hcz9_4 : w8.cell? ⟨gb136, 4, none⟩ = some (.slice A0_4 l0_4.length c0_4) := (qAb BK136.out 4).trans rfl; have hcz9_5 : w8.cell? ⟨gb136, 5, none⟩ = some (.slice A0_5 l0_5.length c0_5) := (qAb BK136.out 5).trans rfl; have hfz9_0 := qAa BK136.out 0; have hfz9_1 := qAa BK136.out 1; have hfz9_2 := qAa BK136.out 2; have hfz9_3 := qAa BK136.out 3; have hfz9_4 := qAa BK136.out 4; have hfz9_5 := qAa BK136.out 5) | ((with_reducible refine qAp (f := 67) rfl ?_); refine goesL_ (some 19) rfl rfl Tryd.func67 (by kernel_rfl) rfl #[.int .i64 a0_2] rfl (by (try simp only [List.map_toArray, List.map_cons, List.map_nil]); first | done | rfl | (simp only [List.length_drop, List.length_take]; rfl)) ?_; (with_reducible refine (strconv_Itoa.calls a0_2 t138 _ ?side1 A7.out).mono ?_); (case side1 => exact ⟨Tabs.below hT.out (by repeat (first | (with_reducible first | exact HB.out | apply qAd | apply qAc | apply qAe | refine qAf ?_ GE136.out) | exact HB.out))⟩); rintro e w10 ⟨rfl, hb⟩; refine ⟨_, rfl, ?_⟩; have n0_ := Aside0.mk (qAm (g := gb136) (o := .cells #[.int .i64 a0_0, .bool a0_1, .int .i64 a0_2, .string a0_3, .slice A0_4 l0_4.length c0_4, .slice A0_5 l0_5.length c0_5] 25 (0, 0)) (by (with_reducible repeat (first | refine qAg ?_ _ | refine qAi ?_ | refine blk_alloc ?_ _)); exact BK136.out) hb); have n1_ := Aside0.mk (qAj (by repeat (first | (with_reducible first | exact HB.out | apply qAd | apply qAc | apply qAe | refine qAf ?_ GE136.out) | exact HB.out)) hb); clear BK136; clear HB; have BK136 := n0_; have HB := n1_; clear n0_ n1_; (try clear hb); (try clear hb2); (try clear hk); (try clear hi)))
   go_ret
   exact ⟨by first | rfl | (simp [qAl, qAk] <;> rfl) | (simp [*, qAl, qAk] <;> rfl), by repeat (first | (with_reducible first | exact HB.out | apply qAd | apply qAc | apply qAe | refine qAf ?_ GE136.out) | exact HB.out)⟩
  ·rw [if_neg c6] at H
   have c6b0 : (a0_0 == 2) = false := beq_eq_false_iff_ne.mpr c6
   have c6b1 : (a0_0 != 2) = true := bne_iff_ne.mpr c6
   by_cases c11 : a0_0 = 3
   ·rw [if_pos c11] at H
    have c11b0 : (a0_0 == 3) = true := beq_iff_eq.mpr c11
    have c11b1 : (a0_0 != 3) = false := bne_eq_false_iff_eq.mpr c11
    clear c11
    replace H := Option.bind_eq_some_iff.mp H
    obtain ⟨t139, A120, H⟩ := H
    replace H : (some t139) = some r := H
    have A12 := Aside0.mk A120
    clear A120
    obtain rfl := Option.some.inj H
    go_enter Tryd.func47, Tryd.ntmps47
    go_wp2_with (first | ((with_reducible refine qAy (N := 1) rfl ?_); refine qAv ?hg (N := 1) ?hd (cs := #[.int .i64 a0_0, .bool a0_1, .int .i64 a0_2, .string a0_3, .slice A0_4 l0_4.length c0_4, .slice A0_5 l0_5.length c0_5]) (t := 25) ?hr ?_; (case hd => rfl); (case hg => rfl); (case hr => first | (go_simp; done) | (go_simp; rfl)); intro gb136 hg w13 hbox hb; have n0_ := Aside0.mk (qAj (by repeat (first | (with_reducible first | exact HB.out | apply qAd | apply qAc | apply qAe) | exact HB.out)) hb); have n1_ := Aside0.mk (hbox); have n2_ := Aside0.mk ((by rw [hg]; exact (qAn (by repeat (first | (with_reducible first | exact HB.out | apply qAd | apply qAc | apply qAe) | exact HB.out))) : w.heap.size ≤ gb136)); have n3_ := Aside0.mk ((by rw [hg]; exact (qAn (by repeat (first | (with_reducible first | exact HB.out | apply qAd | apply qAc | apply qAe) | exact HB.out))) : w.heap.size ≤ gb136)); clear HB; have HB := n0_; have BK136 := n1_; have GW136 := n2_; have GE136 := n3_; clear n0_ n1_ n2_ n3_; clear hb hbox hg; have hcz14_0 : w13.cell? ⟨gb136, 0, none⟩ = some (.int .i64 a0_0) := (qAb BK136.out 0).trans rfl; have hcz14_1 : w13.cell? ⟨gb136, 1, none⟩ = some (.bool a0_1) := (qAb BK136.out 1).trans rfl; have hcz14_2 : w13.cell? ⟨gb136, 2, none⟩ = some (.int .i64 a0_2) := (qAb BK136.out 2).trans rfl; have hcz14_3 : w13.cell? ⟨gb136, 3, none⟩ = some (.string a0_3) := (qAb BK136.out 3).trans rfl; have hcz14_4 : w13.cell? ⟨gb136, 4, none⟩ = some (.slice A0_4 l0_4.length c0_4) := (qAb BK136.out 4).trans rfl; have hcz14_5 : w13.cell? ⟨gb136, 5, none⟩ = some (.slice A0_5 l0_5.length c0_5) := (qAb BK136.out 5).trans rfl; have hfz14_0 := qAa BK136.out 0; have hfz14_1 := qAa BK136.out 1; have hfz14_2 := qAa BK136.out 2; have hfz14_3 := qAa BK136.out 3; have hfz14_4 := qAa BK136.out 4; have hfz14_5 := qAa BK136.out 5) | ((with_reducible refine qAp (f := 26) rfl ?_); refine goesL_ (some 24) rfl rfl Tryd.func26 (by kernel_rfl) rfl #[.string a0_3] rfl (by (try simp only [List.map_toArray, List.map_cons, List.map_nil]); first | done | rfl | (simp only [List.length_drop, List.length_take]; rfl)) ?_; (with_reducible refine (value_Quote.calls k a0_3 t139 _ A12.out).mono ?_); rintro e w15 ⟨rfl, hb⟩; refine ⟨_, rfl, ?_⟩; have n0_ := Aside0.mk (qAm (g := gb136) (o := .cells #[.int .i64 a0_0, .bool a0_1, .int .i64 a0_2, .string a0_3, .slice A0_4 l0_4.length c0_4, .slice A0_5 l0_5.length c0_5] 25 (0, 0)) (by (with_reducible repeat (first | refine qAg ?_ _ | refine qAi ?_ | refine blk_alloc ?_ _)); exact BK136.out) hb); have n1_ := Aside0.mk (qAj (by repeat (first | (with_reducible first | exact HB.out | apply qAd | apply qAc | apply qAe | refine qAf ?_ GE136.out) | exact HB.out)) hb); clear BK136; clear HB; have BK136 := n0_; have HB := n1_; clear n0_ n1_; (try clear hb); (try clear hb2); (try clear hk); (try clear hi)))
    go_ret
    exact ⟨by first | rfl | (simp [qAl, qAk] <;> rfl) | (simp [*, qAl, qAk] <;> rfl), by repeat (first | (with_reducible first | exact HB.out | apply qAd | apply qAc | apply qAe | refine qAf ?_ GE136.out) | exact HB.out)⟩
   ·rw [if_neg c11] at H
    have c11b0 : (a0_0 == 3) = false := beq_eq_false_iff_ne.mpr c11
    have c11b1 : (a0_0 != 3) = true := bne_iff_ne.mpr c11
    have HC16 := Aside0.mk H
    clear H
    go_enter Tryd.func47, Tryd.ntmps47
    go_upto_if 25 with (first | ((with_reducible refine qAy (N := 1) rfl ?_); refine qAv ?hg (N := 1) ?hd (cs := #[.int .i64 a0_0, .bool a0_1, .int .i64 a0_2, .string a0_3, .slice A0_4 l0_4.length c0_4, .slice A0_5 l0_5.length c0_5]) (t := 25) ?hr ?_; (case hd => rfl); (case hg => rfl); (case hr => first | (go_simp; done) | (go_simp; rfl)); intro gb136 hg w17 hbox hb; have n0_ := Aside0.mk (qAj (by repeat (first | (with_reducible first | exact HB.out | apply qAd | apply qAc | apply qAe) | exact HB.out)) hb); have n1_ := Aside0.mk (hbox); have n2_ := Aside0.mk ((by rw [hg]; exact (qAn (by repeat (first | (with_reducible first | exact HB.out | apply qAd | apply qAc | apply qAe) | exact HB.out))) : w.heap.size ≤ gb136)); have n3_ := Aside0.mk ((by rw [hg]; exact (qAn (by repeat (first | (with_reducible first | exact HB.out | apply qAd | apply qAc | apply qAe) | exact HB.out))) : w.heap.size ≤ gb136)); clear HB; have HB := n0_; have BK136 := n1_; have GW136 := n2_; have GE136 := n3_; clear n0_ n1_ n2_ n3_; clear hb hbox hg; have hcz18_0 : w17.cell? ⟨gb136, 0, none⟩ = some (.int .i64 a0_0) := (qAb BK136.out 0).trans rfl; have hcz18_1 : w17.cell? ⟨gb136, 1, none⟩ = some (.bool a0_1) := (qAb BK136.out 1).trans rfl; have hcz18_2 : w17.cell? ⟨gb136, 2, none⟩ = some (.int .i64 a0_2) := (qAb BK136.out 2).trans rfl; have hcz18_3 : w17.cell? ⟨gb136, 3, none⟩ = some (.string a0_3) := (qAb BK136.out 3).trans rfl; have hcz18_4 : w17.cell? ⟨gb136, 4, none⟩ = some (.slice A0_4 l0_4.length c0_4) := (qAb BK136.out 4).trans rfl; have hcz18_5 : w17.cell? ⟨gb136, 5, none⟩ = some (.slice A0_5 l0_5.length c0_5) := (qAb BK136.out 5).trans rfl; have hfz18_0 := qAa BK136.out 0; have hfz18_1 := qAa BK136.out 1; have hfz18_2 := qAa BK136.out 2; have hfz18_3 := qAa BK136.out 3; have hfz18_4 := qAa BK136.out 4; have hfz18_5 := qAa BK136.out 5))
    (try simp only [Act.put, List.setIfInBounds_toArray, List.set_cons_zero, List.set_cons_succ])
    go_cut [25] (fun v25 wc => ∃ (kq : Nat) (x25_15 : Bool), v25 = .bool x25_15 ∧ Aside0 (value_text.j0 kq x25_15 a0_0 a0_1 a0_2 a0_3 l0_4 l0_5 = some r) ∧ Aside0 (kq ≤ k) ∧ Aside0 (wc.heap[gb136]? = some (.cells #[.int .i64 a0_0, .bool a0_1, .int .i64 a0_2, .string a0_3, (.slice A0_4 l0_4.length c0_4), (.slice A0_5 l0_5.length c0_5)] 25 (0, 0))) ∧ Aside0 (Below w.heap.size w wc))
    case first =>
     have H := HC16.out
     clear HC16
     by_cases c19 : a0_0 = 4
     ·rw [if_pos c19] at H
      have c19b0 : (a0_0 == 4) = true := beq_iff_eq.mpr c19
      have c19b1 : (a0_0 != 4) = false := bne_eq_false_iff_eq.mpr c19
      clear c19
      (first | rw [c19b0] | (simp only [i64_w, i32_w]; rw [c19b0]) | skip)
      have H' := Aside0.mk H
      clear H
      go_wp2
      go_meet
      case rel => exact ⟨_, ((a0_0 == 4)), (by first | rfl | (simp; done) | (simp [*]; done) | exact congrArg Value.bool (nil_ne _) | exact congrArg Value.bool (nil_eq _) | exact congrArg Value.bool (nil_ne' _)), H', ⟨by first | omega | exact Nat.le_refl _⟩, ⟨by (with_reducible repeat (first | refine qAg ?_ _ | refine qAi ?_ | refine blk_alloc ?_ _)); exact BK136.out⟩, ⟨by repeat (first | (with_reducible first | exact HB.out | apply qAd | apply qAc | apply qAe | refine qAf ?_ GE136.out) | exact HB.out)⟩⟩
     ·rw [if_neg c19] at H
      have c19b0 : (a0_0 == 4) = false := beq_eq_false_iff_ne.mpr c19
      have c19b1 : (a0_0 != 4) = true := bne_iff_ne.mpr c19
      (first | rw [c19b0] | (simp only [i64_w, i32_w]; rw [c19b0]) | skip)
      have H' := Aside0.mk H
      clear H
      go_wp2
      go_meet
      case rel => exact ⟨_, ((a0_0 == 5)), (by first | rfl | (simp; done) | (simp [*]; done) | exact congrArg Value.bool (nil_ne _) | exact congrArg Value.bool (nil_eq _) | exact congrArg Value.bool (nil_ne' _)), H', ⟨by first | omega | exact Nat.le_refl _⟩, ⟨by (with_reducible repeat (first | refine qAg ?_ _ | refine qAi ?_ | refine blk_alloc ?_ _)); exact BK136.out⟩, ⟨by repeat (first | (with_reducible first | exact HB.out | apply qAd | apply qAc | apply qAe | refine qAf ?_ GE136.out) | exact HB.out)⟩⟩
    case rest =>
     clear HC16
     try clear c1
     try clear c2
     try clear c2b0
     try clear c2b1
     try clear p2
     try clear c4
     try clear c6
     try clear c6b0
     try clear c6b1
     try clear c11
     try clear c11b0
     try clear c11b1
     try clear c19
     try clear c19b0
     try clear c19b1
     try clear hcz14_0
     try clear hcz14_1
     try clear hcz14_2
     try clear hcz14_3
     try clear hcz14_4
     try clear hcz14_5
     try clear hcz18_0
     try clear hcz18_1
     try clear hcz18_2
     try clear hcz18_3
     try clear hcz18_4
     try clear hcz18_5
     try clear hcz5_0
     try clear hcz5_1
     try clear hcz5_2
     try clear hcz5_3
     try clear hcz5_4
     try clear hcz5_5
     try clear hcz9_0
     try clear hcz9_1
     try clear hcz9_2
     try clear hcz9_3
     try clear hcz9_4
     try clear hcz9_5
     try clear hfz14_0
     try clear hfz14_1
     try clear hfz14_2
     try clear hfz14_3
     try clear hfz14_4
     try clear hfz14_5
     try clear hfz18_0
     try clear hfz18_1
     try clear hfz18_2
     try clear hfz18_3
     try clear hfz18_4
     try clear hfz18_5
     try clear hfz5_0
     try clear hfz5_1
     try clear hfz5_2
     try clear hfz5_3
     try clear hfz5_4
     try clear hfz5_5
     try clear hfz9_0
     try clear hfz9_1
     try clear hfz9_2
     try clear hfz9_3
     try clear hfz9_4
     try clear hfz9_5
     obtain ⟨kq, x25_15, rfl, HA, HJ15, BK136, HB⟩ := hcut
     cases kq with
     | zero => exact absurd HA.out (by simp [value_text.j0])
     | succ kj15 =>
      have H := HA.out
      clear HA
      simp only [value_text.j0] at H
      by_cases c20 : x25_15 = true
      ·subst c20
       have H1 : (value_text.l0 kj15 ([] : List ByteArray) l0_4 (l0_4.length : Int) 0 a0_0 a0_1 a0_2 a0_3 l0_4 l0_5) = some r := by rw [if_pos rfl] at H; exact H
       clear H
       have H := H1
       clear H1
       have H' := Aside0.mk H
       clear H
       have hcz21_0 : wc.cell? ⟨gb136, 0, none⟩ = some (.int .i64 a0_0) := (qAb BK136.out 0).trans rfl
       have hcz21_1 : wc.cell? ⟨gb136, 1, none⟩ = some (.bool a0_1) := (qAb BK136.out 1).trans rfl
       have hcz21_2 : wc.cell? ⟨gb136, 2, none⟩ = some (.int .i64 a0_2) := (qAb BK136.out 2).trans rfl
       have hcz21_3 : wc.cell? ⟨gb136, 3, none⟩ = some (.string a0_3) := (qAb BK136.out 3).trans rfl
       have hcz21_4 : wc.cell? ⟨gb136, 4, none⟩ = some (.slice A0_4 l0_4.length c0_4) := (qAb BK136.out 4).trans rfl
       have hcz21_5 : wc.cell? ⟨gb136, 5, none⟩ = some (.slice A0_5 l0_5.length c0_5) := (qAb BK136.out 5).trans rfl
       have hfz21_0 := qAa BK136.out 0
       have hfz21_1 := qAa BK136.out 1
       have hfz21_2 := qAa BK136.out 2
       have hfz21_3 := qAa BK136.out 3
       have hfz21_4 := qAa BK136.out 4
       have hfz21_5 := qAa BK136.out 5
       go_wp2
       go_loopg [3, 31] kj15 (fun kq v3 v31 w' => ∃ (x3_2 : List ByteArray) (x31_2 : Int), v31 = .int .i64 x31_2 ∧ Aside0 (value_text.l0 kq x3_2 l0_4 (l0_4.length : Int) x31_2 a0_0 a0_1 a0_2 a0_3 l0_4 l0_5 = some r) ∧ Aside0 (kq ≤ kj15) ∧ Aside0 (Kd.R Kd.string 9 w' w.heap.size (fun _ => True) v3 x3_2) ∧ Aside0 (w'.heap[gb136]? = some (.cells #[.int .i64 a0_0, .bool a0_1, .int .i64 a0_2, .string a0_3, (.slice A0_4 l0_4.length c0_4), (.slice A0_5 l0_5.length c0_5)] 25 (0, 0))) ∧ Aside0 (Below w.heap.size w w'))
       case atStart => exact ⟨(([] : List ByteArray)), (0), (by first | rfl | (simp; done) | (simp [*]; done) | exact congrArg Value.bool (nil_ne _) | exact congrArg Value.bool (nil_eq _) | exact congrArg Value.bool (nil_ne' _)), H', ⟨Nat.le_refl _⟩, ⟨by first | exact Kd.R_nil _ _ _ _ _ | exact Kd.N_nil _ _ _ _ _ | exact Kd.V_nil _ _ _ _ _ | exact Kd.Q_nil _ _ _ _ _ | exact Kd.S_nil _ _ _ _ _⟩, ⟨by (with_reducible repeat (first | refine qAg ?_ _ | refine qAi ?_ | refine blk_alloc ?_ _)); exact BK136.out⟩, ⟨by repeat (first | (with_reducible first | exact HB.out | apply qAd | apply qAc | apply qAe | refine qAf ?_ GE136.out) | exact HB.out)⟩⟩
       case round =>
        clear H'
        try clear c1
        try clear c2
        try clear c2b0
        try clear c2b1
        try clear p2
        try clear c4
        try clear c6
        try clear c6b0
        try clear c6b1
        try clear c11
        try clear c11b0
        try clear c11b1
        try clear c19
        try clear c19b0
        try clear c19b1
        try clear c20
        try clear hcz14_0
        try clear hcz14_1
        try clear hcz14_2
        try clear hcz14_3
        try clear hcz14_4
        try clear hcz14_5
        try clear hcz18_0
        try clear hcz18_1
        try clear hcz18_2
        try clear hcz18_3
        try clear hcz18_4
        try clear hcz18_5
        try clear hcz21_0
        try clear hcz21_1
        try clear hcz21_2
        try clear hcz21_3
        try clear hcz21_4
        try clear hcz21_5
        try clear hcz5_0
        try clear hcz5_1
        try clear hcz5_2
        try clear hcz5_3
        try clear hcz5_4
        try clear hcz5_5
        try clear hcz9_0
        try clear hcz9_1
        try clear hcz9_2
        try clear hcz9_3
        try clear hcz9_4
        try clear hcz9_5
        try clear hfz14_0
        try clear hfz14_1
        try clear hfz14_2
        try clear hfz14_3
        try clear hfz14_4
        try clear hfz14_5
        try clear hfz18_0
        try clear hfz18_1
        try clear hfz18_2
        try clear hfz18_3
        try clear hfz18_4
        try clear hfz18_5
        try clear hfz21_0
        try clear hfz21_1
        try clear hfz21_2
        try clear hfz21_3
        try clear hfz21_4
        try clear hfz21_5
        try clear hfz5_0
        try clear hfz5_1
        try clear hfz5_2
        try clear hfz5_3
        try clear hfz5_4
        try clear hfz5_5
        try clear hfz9_0
        try clear hfz9_1
        try clear hfz9_2
        try clear hfz9_3
        try clear hfz9_4
        try clear hfz9_5
        try clear p2
        obtain ⟨x3_2, x31_2, rfl, HA, HK2, HO_3, BK136, HB⟩ := hrel
        cases gk with
        | zero => exact absurd HA.out (by simp [value_text.l0])
        | succ k2 =>
         have H := HA.out
         clear HA
         simp only [value_text.l0] at H
         by_cases c22 : x31_2 < (l0_4.length : Int)
         ·rw [if_pos c22] at H
          have c22b0 : decide (x31_2 < (l0_4.length : Int)) = true := decide_eq_true c22
          clear c22
          by_cases c23 : 0 ≤ x31_2
          ·rw [if_pos c23] at H
           have c23b0 : decide (0 ≤ x31_2) = true := decide_eq_true c23
           clear c23
           by_cases c24 : x31_2 < (l0_4.length : Int)
           ·rw [if_pos c24] at H
            have c24b0 : decide (x31_2 < (l0_4.length : Int)) = true := decide_eq_true c24
            clear c24
            replace H := Option.bind_eq_some_iff.mp H
            obtain ⟨t143, A250, H⟩ := H
            replace H : (if a0_0 = 5 then (if x31_2 < (l0_5.length : Int) then ((value_Quote.f k2 (rdOf ByteArray.empty l0_5 x31_2)).bind fun t145 => (if t145.size + 1 ≤ 9223372036854775807 then (if (t145 ++ (⟨#[58]⟩ : ByteArray)).size + t143.size ≤ 9223372036854775807 then (if x3_2.length < 8796093022208 then (value_text.l0 k2 (x3_2 ++ [(t145 ++ (⟨#[58]⟩ : ByteArray)) ++ t143]) l0_4 (l0_4.length : Int) (wrap64 (x31_2 + 1)) a0_0 a0_1 a0_2 a0_3 l0_4 l0_5) else (none)) else (none)) else (none))) else (none)) else (if x3_2.length < 8796093022208 then (value_text.l0 k2 (x3_2 ++ [t143]) l0_4 (l0_4.length : Int) (wrap64 (x31_2 + 1)) a0_0 a0_1 a0_2 a0_3 l0_4 l0_5) else (none))) = some r := H
            have A25 := Aside0.mk A250
            clear A250
            by_cases c26 : a0_0 = 5
            ·rw [if_pos c26] at H
             have c26b0 : (a0_0 == 5) = true := beq_iff_eq.mpr c26
             have c26b1 : (a0_0 != 5) = false := bne_eq_false_iff_eq.mpr c26
             clear c26
             by_cases c27 : x31_2 < (l0_5.length : Int)
             ·rw [if_pos c27] at H
              have c27b0 : decide (x31_2 < (l0_5.length : Int)) = true := decide_eq_true c27
              clear c27
              replace H := Option.bind_eq_some_iff.mp H
              obtain ⟨t145, A280, H⟩ := H
              replace H : (if t145.size + 1 ≤ 9223372036854775807 then (if (t145 ++ (⟨#[58]⟩ : ByteArray)).size + t143.size ≤ 9223372036854775807 then (if x3_2.length < 8796093022208 then (value_text.l0 k2 (x3_2 ++ [(t145 ++ (⟨#[58]⟩ : ByteArray)) ++ t143]) l0_4 (l0_4.length : Int) (wrap64 (x31_2 + 1)) a0_0 a0_1 a0_2 a0_3 l0_4 l0_5) else (none)) else (none)) else (none)) = some r := H
              have A28 := Aside0.mk A280
              clear A280
              by_cases c29 : t145.size + 1 ≤ 9223372036854775807
              ·rw [if_pos c29] at H
               have c29b0 := eq_true c29
               have c29b1 : decide (t145.size + 1 ≤ 9223372036854775807) = true := decide_eq_true c29
               try have c29b2 : (9223372036854775807 < t145.size + 1) = False := eq_false (Nat.not_lt.2 c29)
               have Sc29 := Aside0.mk c29
               clear c29
               by_cases c30 : (t145 ++ (⟨#[58]⟩ : ByteArray)).size + t143.size ≤ 9223372036854775807
               ·rw [if_pos c30] at H
                have c30b0 := eq_true c30
                have c30b1 : decide ((t145 ++ (⟨#[58]⟩ : ByteArray)).size + t143.size ≤ 9223372036854775807) = true := decide_eq_true c30
                try have c30b2 : (9223372036854775807 < (t145 ++ (⟨#[58]⟩ : ByteArray)).size + t143.size) = False := eq_false (Nat.not_lt.2 c30)
                have Sc30 := Aside0.mk c30
                clear c30
                by_cases c31 : x3_2.length < 8796093022208
                ·rw [if_pos c31] at H
                 have LMc31 := Aside0.mk c31
                 clear c31
                 obtain ⟨y146, hy146⟩ : ∃ y_ : List ByteArray, y_ = (x3_2 ++ [(t145 ++ (⟨#[58]⟩ : ByteArray)) ++ t143]) := ⟨_, rfl⟩
                 replace H : (value_text.l0 k2 y146 l0_4 (l0_4.length : Int) (wrap64 (x31_2 + 1)) a0_0 a0_1 a0_2 a0_3 l0_4 l0_5) = some r := by first | (rw [hy146]; with_reducible exact H) | (have H2_ := (Option.bind_some _ _).symm.trans H; rw [hy146]; with_reducible exact H2_) | (have H2_ := (Option.bind_some _ _).symm.trans H; with_reducible exact H2_) | with_reducible exact H | (rw [hy146]; exact H) | exact H
                 have Ny146 := Aside0.mk hy146
                 clear hy146
                 have H' := Aside0.mk H
                 clear H
                 have p141 : 0 ≤ (x31_2 : Int) := of_decide_eq_true (by first | (with_reducible assumption) | assumption)
                 have q141 : x31_2 < (l0_4.length : Int) := of_decide_eq_true (by first | (with_reducible assumption) | assumption)
                 obtain ⟨ad141, A141_4, c141_4, A141_5, c141_5, e141, hx141_0, hx141_1, hx141_2, hx141_3, hx141_4, hx141_5, hl141_4, hi141_4, hl141_5, hi141_5⟩ := at_T25 HR0_4.out x31_2 p141 q141
                 cases e141
                 replace hx141_0 := (HB.out.cell (World.block_lt_of_cell? w _ hx141_0)).trans hx141_0
                 replace hx141_1 := (HB.out.cell (World.block_lt_of_cell? w _ hx141_1)).trans hx141_1
                 replace hx141_2 := (HB.out.cell (World.block_lt_of_cell? w _ hx141_2)).trans hx141_2
                 replace hx141_3 := (HB.out.cell (World.block_lt_of_cell? w _ hx141_3)).trans hx141_3
                 replace hx141_4 := (HB.out.cell (World.block_lt_of_cell? w _ hx141_4)).trans hx141_4
                 replace hx141_5 := (HB.out.cell (World.block_lt_of_cell? w _ hx141_5)).trans hx141_5
                 have HR141_4 := Aside0.mk hi141_4
                 have HC141_4 := Aside0.mk hl141_4
                 clear hi141_4 hl141_4
                 have HR141_5 := Aside0.mk hi141_5
                 have HC141_5 := Aside0.mk hl141_5
                 clear hi141_5 hl141_5
                 replace p141 := eq_true p141
                 replace q141 := eq_true q141
                 go_wp2_with (first | ((with_reducible refine qAy (N := 5) rfl ?_); refine qAv ?hg (N := 5) ?hd (cs := #[.int .i64 0, .bool false, .int .i64 0, .string (⟨#[]⟩ : ByteArray), .slice none 0 0, .slice none 0 0]) (t := 25) ?hr ?_; (case hd => rfl); (case hg => rfl); (case hr => first | (go_simp; done) | (go_simp; rfl)); intro gb142 hg w32 hbox hb; have n0_ := Aside0.mk (Kd.R_below (by (with_reducible repeat (first | apply Kd.R_alloc | apply Kd.R_drewN | apply Kd.R_drew)); exact HO_3.out) hb); have n1_ := Aside0.mk (qAm (g := gb136) (o := .cells #[.int .i64 a0_0, .bool a0_1, .int .i64 a0_2, .string a0_3, .slice (some ad141) l0_4.length c0_4, .slice A0_5 l0_5.length c0_5] 25 (0, 0)) (by (with_reducible repeat (first | refine qAg ?_ _ | refine qAi ?_ | refine blk_alloc ?_ _)); exact BK136.out) hb); have n2_ := Aside0.mk (qAj (by repeat (first | (with_reducible first | exact HB.out | apply qAd | apply qAc | apply qAe | refine qAf ?_ GE136.out) | exact HB.out)) hb); have n3_ := Aside0.mk (hbox); have n4_ := Aside0.mk ((by rw [hg]; exact (qAn (by repeat (first | (with_reducible first | exact HB.out | apply qAd | apply qAc | apply qAe | refine qAf ?_ GE136.out) | exact HB.out))) : w.heap.size ≤ gb142)); have n5_ := Aside0.mk ((by rw [hg]; exact (qAn (by repeat (first | (with_reducible first | exact HB.out | apply qAd | apply qAc | apply qAe | refine qAf ?_ GE136.out) | exact HB.out))) : w.heap.size ≤ gb142)); have n6_ := Aside0.mk ((by rw [hg]; exact Nat.ne_of_lt (blk_lt (g := gb136) (o := .cells #[.int .i64 a0_0, .bool a0_1, .int .i64 a0_2, .string a0_3, .slice (some ad141) l0_4.length c0_4, .slice A0_5 l0_5.length c0_5] 25 (0, 0)) (by (with_reducible repeat (first | refine qAg ?_ _ | refine qAi ?_ | refine blk_alloc ?_ _)); exact BK136.out)) : gb136 ≠ gb142)); have n7_ := Aside0.mk ((by rw [hg]; exact Nat.ne_of_gt (blk_lt (g := gb136) (o := .cells #[.int .i64 a0_0, .bool a0_1, .int .i64 a0_2, .string a0_3, .slice (some ad141) l0_4.length c0_4, .slice A0_5 l0_5.length c0_5] 25 (0, 0)) (by (with_reducible repeat (first | refine qAg ?_ _ | refine qAi ?_ | refine blk_alloc ?_ _)); exact BK136.out)) : gb142 ≠ gb136)); clear HO_3; clear BK136; clear HB; have HO_3 := n0_; have BK136 := n1_; have HB := n2_; have BK142 := n3_; have GW142 := n4_; have GE142 := n5_; have NB136_142 := n6_; have NB142_136 := n7_; clear n0_ n1_ n2_ n3_ n4_ n5_ n6_ n7_; clear hb hbox hg; have hnb33 := NB142_136.out; have hnc33 := NB136_142.out; have hcz34_0 : w32.cell? ⟨gb142, 0, none⟩ = some (.int .i64 0) := (qAb BK142.out 0).trans rfl; have hcz34_1 : w32.cell? ⟨gb142, 1, none⟩ = some (.bool false) := (qAb BK142.out 1).trans rfl; have hcz34_2 : w32.cell? ⟨gb142, 2, none⟩ = some (.int .i64 0) := (qAb BK142.out 2).trans rfl; have hcz34_3 : w32.cell? ⟨gb142, 3, none⟩ = some (.string (⟨#[]⟩ : ByteArray)) := (qAb BK142.out 3).trans rfl; have hcz34_4 : w32.cell? ⟨gb142, 4, none⟩ = some (.slice none 0 0) := (qAb BK142.out 4).trans rfl; have hcz34_5 : w32.cell? ⟨gb142, 5, none⟩ = some (.slice none 0 0) := (qAb BK142.out 5).trans rfl; have hfz34_0 := qAa BK142.out 0; have hfz34_1 := qAa BK142.out 1; have hfz34_2 := qAa BK142.out 2; have hfz34_3 := qAa BK142.out 3; have hfz34_4 := qAa BK142.out 4; have hfz34_5 := qAa BK142.out 5) | ((with_reducible refine qAp (f := 47) rfl ?_); refine goesL_ (some 37) rfl rfl Tryd.func47 (by kernel_rfl) rfl #[.agg #[.int .i64 ((rd_T25 l0_4 x31_2).f0), .bool ((rd_T25 l0_4 x31_2).f1), .int .i64 ((rd_T25 l0_4 x31_2).f2), .string ((rd_T25 l0_4 x31_2).f3), .slice A141_4 ((rd_T25 l0_4 x31_2).f4).length c141_4, .slice A141_5 ((rd_T25 l0_4 x31_2).f5).length c141_5]] rfl (by (try simp only [List.map_toArray, List.map_cons, List.map_nil]); first | done | rfl | (simp only [List.length_drop, List.length_take]; rfl)) ?_; (with_reducible refine (ih k2 (by have := HJ15.out; have := HK2.out; omega) ((rd_T25 l0_4 x31_2).f0) ((rd_T25 l0_4 x31_2).f1) ((rd_T25 l0_4 x31_2).f2) ((rd_T25 l0_4 x31_2).f3) _ _ ((rd_T25 l0_4 x31_2).f4) _ _ ((rd_T25 l0_4 x31_2).f5) t143 _ ?side1 ?side2 ?side3 ?side4 ?side5 A25.out).mono ?_); (case side1 => exact ⟨Tabs.below hT.out (by repeat (first | (with_reducible first | exact HB.out | apply qAd | apply qAc | apply qAe | refine qAf ?_ GE136.out | refine qAf ?_ GE142.out) | exact HB.out))⟩); (case side2 => exact Kd.C_below HR141_4.out (by repeat (first | (with_reducible first | exact HB.out | apply qAd | apply qAc | apply qAe | refine qAf ?_ GE136.out | refine qAf ?_ GE142.out) | exact HB.out))); (case side3 => exact HC141_4.out); (case side4 => exact Kd.C_below HR141_5.out (by repeat (first | (with_reducible first | exact HB.out | apply qAd | apply qAc | apply qAe | refine qAf ?_ GE136.out | refine qAf ?_ GE142.out) | exact HB.out))); (case side5 => exact HC141_5.out); rintro e w35 ⟨rfl, hb⟩; refine ⟨_, rfl, ?_⟩; have n0_ := Aside0.mk (Kd.R_below (by (with_reducible repeat (first | apply Kd.R_alloc | apply Kd.R_drewN | apply Kd.R_drew)); exact (Kd.R_mono (Kd.R_far (p := ⟨gb142, 5, none⟩) (Kd.R_far (p := ⟨gb142, 4, none⟩) (Kd.R_far (p := ⟨gb142, 3, none⟩) (Kd.R_far (p := ⟨gb142, 2, none⟩) (Kd.R_far (p := ⟨gb142, 1, none⟩) (Kd.R_far (p := ⟨gb142, 0, none⟩) (Kd.R_types HO_3.out BK142.out (by decide)) (fun _ hk => hk.2) (.int .i64 ((rd_T25 l0_4 x31_2).f0))) (fun _ hk => hk.2) (.bool ((rd_T25 l0_4 x31_2).f1))) (fun _ hk => hk.2) (.int .i64 ((rd_T25 l0_4 x31_2).f2))) (fun _ hk => hk.2) (.string ((rd_T25 l0_4 x31_2).f3))) (fun _ hk => hk.2) (.slice A141_4 ((rd_T25 l0_4 x31_2).f4).length c141_4)) (fun _ hk => hk.2) (.slice A141_5 ((rd_T25 l0_4 x31_2).f5).length c141_5)) (fun _ h_ => h_.1))) hb); have n1_ := Aside0.mk (qAm (g := gb136) (o := .cells #[.int .i64 a0_0, .bool a0_1, .int .i64 a0_2, .string a0_3, .slice (some ad141) l0_4.length c0_4, .slice A0_5 l0_5.length c0_5] 25 (0, 0)) (by (with_reducible repeat (first | refine qAg ?_ _ | refine qAi ?_ | refine blk_alloc ?_ _)); refine qBd ?_ NB136_142.out _; (with_reducible repeat (first | refine qAg ?_ _ | refine qAi ?_ | refine blk_alloc ?_ _)); refine qBd ?_ NB136_142.out _; (with_reducible repeat (first | refine qAg ?_ _ | refine qAi ?_ | refine blk_alloc ?_ _)); refine qBd ?_ NB136_142.out _; (with_reducible repeat (first | refine qAg ?_ _ | refine qAi ?_ | refine blk_alloc ?_ _)); refine qBd ?_ NB136_142.out _; (with_reducible repeat (first | refine qAg ?_ _ | refine qAi ?_ | refine blk_alloc ?_ _)); refine qBd ?_ NB136_142.out _; (with_reducible repeat (first | refine qAg ?_ _ | refine qAi ?_ | refine blk_alloc ?_ _)); refine qBd ?_ NB136_142.out _; (with_reducible repeat (first | refine qAg ?_ _ | refine qAi ?_ | refine blk_alloc ?_ _)); exact BK136.out) hb); have n2_ := Aside0.mk (qAm (g := gb142) (o := .cells #[.int .i64 ((rd_T25 l0_4 x31_2).f0), .bool ((rd_T25 l0_4 x31_2).f1), .int .i64 ((rd_T25 l0_4 x31_2).f2), .string ((rd_T25 l0_4 x31_2).f3), .slice A141_4 ((rd_T25 l0_4 x31_2).f4).length c141_4, .slice A141_5 ((rd_T25 l0_4 x31_2).f5).length c141_5] 25 (0, 0)) (by (with_reducible repeat (first | refine qAg ?_ _ | refine qAi ?_ | refine blk_alloc ?_ _)); refine qA6 (cs := #[.int .i64 ((rd_T25 l0_4 x31_2).f0), .bool ((rd_T25 l0_4 x31_2).f1), .int .i64 ((rd_T25 l0_4 x31_2).f2), .string ((rd_T25 l0_4 x31_2).f3), .slice A141_4 ((rd_T25 l0_4 x31_2).f4).length c141_4, .slice none 0 0]) ?_ 5 _ rfl; (with_reducible repeat (first | refine qAg ?_ _ | refine qAi ?_ | refine blk_alloc ?_ _)); refine qA6 (cs := #[.int .i64 ((rd_T25 l0_4 x31_2).f0), .bool ((rd_T25 l0_4 x31_2).f1), .int .i64 ((rd_T25 l0_4 x31_2).f2), .string ((rd_T25 l0_4 x31_2).f3), .slice none 0 0, .slice none 0 0]) ?_ 4 _ rfl; (with_reducible repeat (first | refine qAg ?_ _ | refine qAi ?_ | refine blk_alloc ?_ _)); refine qA6 (cs := #[.int .i64 ((rd_T25 l0_4 x31_2).f0), .bool ((rd_T25 l0_4 x31_2).f1), .int .i64 ((rd_T25 l0_4 x31_2).f2), .string (⟨#[]⟩ : ByteArray), .slice none 0 0, .slice none 0 0]) ?_ 3 _ rfl; (with_reducible repeat (first | refine qAg ?_ _ | refine qAi ?_ | refine blk_alloc ?_ _)); refine qA6 (cs := #[.int .i64 ((rd_T25 l0_4 x31_2).f0), .bool ((rd_T25 l0_4 x31_2).f1), .int .i64 0, .string (⟨#[]⟩ : ByteArray), .slice none 0 0, .slice none 0 0]) ?_ 2 _ rfl; (with_reducible repeat (first | refine qAg ?_ _ | refine qAi ?_ | refine blk_alloc ?_ _)); refine qA6 (cs := #[.int .i64 ((rd_T25 l0_4 x31_2).f0), .bool false, .int .i64 0, .string (⟨#[]⟩ : ByteArray), .slice none 0 0, .slice none 0 0]) ?_ 1 _ rfl; (with_reducible repeat (first | refine qAg ?_ _ | refine qAi ?_ | refine blk_alloc ?_ _)); refine qA6 (cs := #[.int .i64 0, .bool false, .int .i64 0, .string (⟨#[]⟩ : ByteArray), .slice none 0 0, .slice none 0 0]) ?_ 0 _ rfl; (with_reducible repeat (first | refine qAg ?_ _ | refine qAi ?_ | refine blk_alloc ?_ _)); exact BK142.out) hb); have n3_ := Aside0.mk (qAj (by repeat (first | (with_reducible first | exact HB.out | apply qAd | apply qAc | apply qAe | refine qAf ?_ GE136.out | refine qAf ?_ GE142.out) | exact HB.out)) hb); clear HO_3; clear BK136; clear BK142; clear HB; have HO_3 := n0_; have BK136 := n1_; have BK142 := n2_; have HB := n3_; clear n0_ n1_ n2_ n3_; (try clear hb); (try clear hb2); (try clear hk); (try clear hi); have hcz36_0 : w35.cell? ⟨gb136, 0, none⟩ = some (.int .i64 a0_0) := (qAb BK136.out 0).trans rfl; have hcz36_1 : w35.cell? ⟨gb136, 1, none⟩ = some (.bool a0_1) := (qAb BK136.out 1).trans rfl; have hcz36_2 : w35.cell? ⟨gb136, 2, none⟩ = some (.int .i64 a0_2) := (qAb BK136.out 2).trans rfl; have hcz36_3 : w35.cell? ⟨gb136, 3, none⟩ = some (.string a0_3) := (qAb BK136.out 3).trans rfl; have hcz36_4 : w35.cell? ⟨gb136, 4, none⟩ = some (.slice (some ad141) l0_4.length c0_4) := (qAb BK136.out 4).trans rfl; have hcz36_5 : w35.cell? ⟨gb136, 5, none⟩ = some (.slice A0_5 l0_5.length c0_5) := (qAb BK136.out 5).trans rfl; have hfz36_0 := qAa BK136.out 0; have hfz36_1 := qAa BK136.out 1; have hfz36_2 := qAa BK136.out 2; have hfz36_3 := qAa BK136.out 3; have hfz36_4 := qAa BK136.out 4; have hfz36_5 := qAa BK136.out 5; have p144 : 0 ≤ (x31_2 : Int) := of_decide_eq_true (by first | (with_reducible assumption) | assumption); have q144 : x31_2 < (l0_5.length : Int) := of_decide_eq_true (by first | (with_reducible assumption) | assumption); obtain ⟨ad144, e144, hx144_0⟩ := Kd.at_string HR0_5.out x31_2 p144 q144; cases e144; replace hx144_0 := (HB.out.cell (World.block_lt_of_cell? w _ hx144_0)).trans hx144_0; replace p144 := eq_true p144; replace q144 := eq_true q144) | ((with_reducible refine qAp (f := 26) rfl ?_); refine goesL_ (some 46) rfl rfl Tryd.func26 (by kernel_rfl) rfl #[.string (rdOf ByteArray.empty l0_5 x31_2)] rfl (by (try simp only [List.map_toArray, List.map_cons, List.map_nil]); first | done | rfl | (simp only [List.length_drop, List.length_take]; rfl)) ?_; (with_reducible refine (value_Quote.calls k2 (rdOf ByteArray.empty l0_5 x31_2) t145 _ A28.out).mono ?_); rintro e w37 ⟨rfl, hb⟩; refine ⟨_, rfl, ?_⟩; have n0_ := Aside0.mk (Kd.R_below (by (with_reducible repeat (first | apply Kd.R_alloc | apply Kd.R_drewN | apply Kd.R_drew)); exact HO_3.out) hb); have n1_ := Aside0.mk (qAm (g := gb136) (o := .cells #[.int .i64 a0_0, .bool a0_1, .int .i64 a0_2, .string a0_3, .slice (some ad141) l0_4.length c0_4, .slice (some ad144) l0_5.length c0_5] 25 (0, 0)) (by (with_reducible repeat (first | refine qAg ?_ _ | refine qAi ?_ | refine blk_alloc ?_ _)); exact BK136.out) hb); have n2_ := Aside0.mk (qAm (g := gb142) (o := .cells #[.int .i64 ((rd_T25 l0_4 x31_2).f0), .bool ((rd_T25 l0_4 x31_2).f1), .int .i64 ((rd_T25 l0_4 x31_2).f2), .string ((rd_T25 l0_4 x31_2).f3), .slice A141_4 ((rd_T25 l0_4 x31_2).f4).length c141_4, .slice A141_5 ((rd_T25 l0_4 x31_2).f5).length c141_5] 25 (0, 0)) (by (with_reducible repeat (first | refine qAg ?_ _ | refine qAi ?_ | refine blk_alloc ?_ _)); exact BK142.out) hb); have n3_ := Aside0.mk (qAj (by repeat (first | (with_reducible first | exact HB.out | apply qAd | apply qAc | apply qAe | refine qAf ?_ GE136.out | refine qAf ?_ GE142.out) | exact HB.out)) hb); clear HO_3; clear BK136; clear BK142; clear HB; have HO_3 := n0_; have BK136 := n1_; have BK142 := n2_; have HB := n3_; clear n0_ n1_ n2_ n3_; (try clear hb); (try clear hb2); (try clear hk); (try clear hi)) | ((with_reducible refine qBr (b := .append) (xs := #[.tmp 50, .tmp 52]) rfl ?_); at_builtin; refine Kd.R_append Kd.string (w0 := w) w.heap.size rfl (.tmp 50) (.tmp 52) 23 9 (.string ⟨#[]⟩) 16 rfl Tryd.underlying23 info9 rfl (by decide) (by omega) u3 x3_2 ((t145 ++ (⟨#[58]⟩ : ByteArray)) ++ t143) [.string ((t145 ++ (⟨#[58]⟩ : ByteArray)) ++ t143)] (fun _ => True) (fun _ => False) rfl rfl ?aP (fun _ hk => hk.elim) ?aF ?aO ?aB ?aS ?aL ?_; (case aP => exact rfl); (case aB => exact (by repeat (first | (with_reducible first | exact HB.out | apply qAd | apply qAc | apply qAe | refine qAf ?_ GE136.out | refine qAf ?_ GE142.out) | exact HB.out))); (case aF => exact (fun _ _ => trivial)); (case aO => exact (by (with_reducible repeat (first | apply Kd.R_alloc | apply Kd.R_drewN | apply Kd.R_drew)); exact HO_3.out)); (case aS => exact (qAn (by repeat (first | (with_reducible first | exact HB.out | apply qAd | apply qAc | apply qAe | refine qAf ?_ GE136.out | refine qAf ?_ GE142.out) | exact HB.out)))); (case aL => have := LMc31.out; omega); intro v147 w38 ho hb hg hat; rw [← Ny146.out] at ho; have n0_ := Aside0.mk (qBs (g := gb136) (o := .cells #[.int .i64 a0_0, .bool a0_1, .int .i64 a0_2, .string a0_3, .slice (some ad141) l0_4.length c0_4, .slice (some ad144) l0_5.length c0_5] 25 (0, 0)) (by (with_reducible repeat (first | refine qAg ?_ _ | refine qAi ?_ | refine blk_alloc ?_ _)); exact BK136.out) hg (Kd.R_ne HO_3.out BK136.out (by decide))); have n1_ := Aside0.mk (qBs (g := gb142) (o := .cells #[.int .i64 ((rd_T25 l0_4 x31_2).f0), .bool ((rd_T25 l0_4 x31_2).f1), .int .i64 ((rd_T25 l0_4 x31_2).f2), .string ((rd_T25 l0_4 x31_2).f3), .slice A141_4 ((rd_T25 l0_4 x31_2).f4).length c141_4, .slice A141_5 ((rd_T25 l0_4 x31_2).f5).length c141_5] 25 (0, 0)) (by (with_reducible repeat (first | refine qAg ?_ _ | refine qAi ?_ | refine blk_alloc ?_ _)); exact BK142.out) hg (Kd.R_ne HO_3.out BK142.out (by decide))); have n2_ := Aside0.mk (hb); have n3_ := Aside0.mk (ho); clear BK136; clear BK142; clear HB; clear HO_3; have BK136 := n0_; have BK142 := n1_; have HB := n2_; have HO148 := n3_; clear n0_ n1_ n2_ n3_; clear ho hb hg hat))
                 try any_goals (exfalso; have h_ := Sc29.out; rename_i hb_; (try simp only [ByteArray.size_extract, ByteArray.size_append] at h_ hb_); (try simp only [ByteArray.size, List.size_toArray, List.length_cons, List.length_nil] at h_ hb_); omega)
                 try any_goals (exfalso; have h_ := Sc30.out; rename_i hb_; (try simp only [ByteArray.size_extract, ByteArray.size_append] at h_ hb_); (try simp only [ByteArray.size, List.size_toArray, List.length_cons, List.length_nil] at h_ hb_); omega)
                 go_roundg k2
                 case measure => have := HJ15.out; have := HK2.out; omega
                 case rel => exact ⟨(y146), (wrap64 (x31_2 + 1)), (by first | rfl | (simp; done) | (simp [*]; done) | exact congrArg Value.bool (nil_ne _) | exact congrArg Value.bool (nil_eq _) | exact congrArg Value.bool (nil_ne' _)), H', ⟨by have := HJ15.out; have := HK2.out; omega⟩, ⟨by (with_reducible repeat (first | apply Kd.R_alloc | apply Kd.R_drewN | apply Kd.R_drew)); exact HO148.out⟩, ⟨by (with_reducible repeat (first | refine qAg ?_ _ | refine qAi ?_ | refine blk_alloc ?_ _)); exact BK136.out⟩, ⟨by repeat (first | (with_reducible first | exact HB.out | apply qAd | apply qAc | apply qAe | refine qAf ?_ GE136.out | refine qAf ?_ GE142.out) | exact HB.out)⟩⟩
                ·rw [if_neg c31] at H
                 exact absurd H (by simp)
               ·rw [if_neg c30] at H
                exact absurd H (by simp)
              ·rw [if_neg c29] at H
               exact absurd H (by simp)
             ·rw [if_neg c27] at H
              exact absurd H (by simp)
            ·rw [if_neg c26] at H
             have c26b0 : (a0_0 == 5) = false := beq_eq_false_iff_ne.mpr c26
             have c26b1 : (a0_0 != 5) = true := bne_iff_ne.mpr c26
             by_cases c39 : x3_2.length < 8796093022208
             ·rw [if_pos c39] at H
              have LMc39 := Aside0.mk c39
              clear c39
              obtain ⟨y149, hy149⟩ : ∃ y_ : List ByteArray, y_ = (x3_2 ++ [t143]) := ⟨_, rfl⟩
              replace H : (value_text.l0 k2 y149 l0_4 (l0_4.length : Int) (wrap64 (x31_2 + 1)) a0_0 a0_1 a0_2 a0_3 l0_4 l0_5) = some r := by first | (rw [hy149]; with_reducible exact H) | (have H2_ := (Option.bind_some _ _).symm.trans H; rw [hy149]; with_reducible exact H2_) | (have H2_ := (Option.bind_some _ _).symm.trans H; with_reducible exact H2_) | with_reducible exact H | (rw [hy149]; exact H) | exact H
              have Ny149 := Aside0.mk hy149
              clear hy149
              have H' := Aside0.mk H
              clear H
              have p141 : 0 ≤ (x31_2 : Int) := of_decide_eq_true (by first | (with_reducible assumption) | assumption)
              have q141 : x31_2 < (l0_4.length : Int) := of_decide_eq_true (by first | (with_reducible assumption) | assumption)
              obtain ⟨ad141, A141_4, c141_4, A141_5, c141_5, e141, hx141_0, hx141_1, hx141_2, hx141_3, hx141_4, hx141_5, hl141_4, hi141_4, hl141_5, hi141_5⟩ := at_T25 HR0_4.out x31_2 p141 q141
              cases e141
              replace hx141_0 := (HB.out.cell (World.block_lt_of_cell? w _ hx141_0)).trans hx141_0
              replace hx141_1 := (HB.out.cell (World.block_lt_of_cell? w _ hx141_1)).trans hx141_1
              replace hx141_2 := (HB.out.cell (World.block_lt_of_cell? w _ hx141_2)).trans hx141_2
              replace hx141_3 := (HB.out.cell (World.block_lt_of_cell? w _ hx141_3)).trans hx141_3
              replace hx141_4 := (HB.out.cell (World.block_lt_of_cell? w _ hx141_4)).trans hx141_4
              replace hx141_5 := (HB.out.cell (World.block_lt_of_cell? w _ hx141_5)).trans hx141_5
              have HR141_4 := Aside0.mk hi141_4
              have HC141_4 := Aside0.mk hl141_4
              clear hi141_4 hl141_4
              have HR141_5 := Aside0.mk hi141_5
              have HC141_5 := Aside0.mk hl141_5
              clear hi141_5 hl141_5
              replace p141 := eq_true p141
              replace q141 := eq_true q141
              go_wp2_with (first | ((with_reducible refine qAy (N := 5) rfl ?_); refine qAv ?hg (N := 5) ?hd (cs := #[.int .i64 0, .bool false, .int .i64 0, .string (⟨#[]⟩ : ByteArray), .slice none 0 0, .slice none 0 0]) (t := 25) ?hr ?_; (case hd => rfl); (case hg => rfl); (case hr => first | (go_simp; done) | (go_simp; rfl)); intro gb142 hg w40 hbox hb; have n0_ := Aside0.mk (Kd.R_below (by (with_reducible repeat (first | apply Kd.R_alloc | apply Kd.R_drewN | apply Kd.R_drew)); exact HO_3.out) hb); have n1_ := Aside0.mk (qAm (g := gb136) (o := .cells #[.int .i64 a0_0, .bool a0_1, .int .i64 a0_2, .string a0_3, .slice (some ad141) l0_4.length c0_4, .slice A0_5 l0_5.length c0_5] 25 (0, 0)) (by (with_reducible repeat (first | refine qAg ?_ _ | refine qAi ?_ | refine blk_alloc ?_ _)); exact BK136.out) hb); have n2_ := Aside0.mk (qAj (by repeat (first | (with_reducible first | exact HB.out | apply qAd | apply qAc | apply qAe | refine qAf ?_ GE136.out) | exact HB.out)) hb); have n3_ := Aside0.mk (hbox); have n4_ := Aside0.mk ((by rw [hg]; exact (qAn (by repeat (first | (with_reducible first | exact HB.out | apply qAd | apply qAc | apply qAe | refine qAf ?_ GE136.out) | exact HB.out))) : w.heap.size ≤ gb142)); have n5_ := Aside0.mk ((by rw [hg]; exact (qAn (by repeat (first | (with_reducible first | exact HB.out | apply qAd | apply qAc | apply qAe | refine qAf ?_ GE136.out) | exact HB.out))) : w.heap.size ≤ gb142)); have n6_ := Aside0.mk ((by rw [hg]; exact Nat.ne_of_lt (blk_lt (g := gb136) (o := .cells #[.int .i64 a0_0, .bool a0_1, .int .i64 a0_2, .string a0_3, .slice (some ad141) l0_4.length c0_4, .slice A0_5 l0_5.length c0_5] 25 (0, 0)) (by (with_reducible repeat (first | refine qAg ?_ _ | refine qAi ?_ | refine blk_alloc ?_ _)); exact BK136.out)) : gb136 ≠ gb142)); have n7_ := Aside0.mk ((by rw [hg]; exact Nat.ne_of_gt (blk_lt (g := gb136) (o := .cells #[.int .i64 a0_0, .bool a0_1, .int .i64 a0_2, .string a0_3, .slice (some ad141) l0_4.length c0_4, .slice A0_5 l0_5.length c0_5] 25 (0, 0)) (by (with_reducible repeat (first | refine qAg ?_ _ | refine qAi ?_ | refine blk_alloc ?_ _)); exact BK136.out)) : gb142 ≠ gb136)); clear HO_3; clear BK136; clear HB; have HO_3 := n0_; have BK136 := n1_; have HB := n2_; have BK142 := n3_; have GW142 := n4_; have GE142 := n5_; have NB136_142 := n6_; have NB142_136 := n7_; clear n0_ n1_ n2_ n3_ n4_ n5_ n6_ n7_; clear hb hbox hg; have hnb41 := NB142_136.out; have hnc41 := NB136_142.out; have hcz42_0 : w40.cell? ⟨gb142, 0, none⟩ = some (.int .i64 0) := (qAb BK142.out 0).trans rfl; have hcz42_1 : w40.cell? ⟨gb142, 1, none⟩ = some (.bool false) := (qAb BK142.out 1).trans rfl; have hcz42_2 : w40.cell? ⟨gb142, 2, none⟩ = some (.int .i64 0) := (qAb BK142.out 2).trans rfl; have hcz42_3 : w40.cell? ⟨gb142, 3, none⟩ = some (.string (⟨#[]⟩ : ByteArray)) := (qAb BK142.out 3).trans rfl; have hcz42_4 : w40.cell? ⟨gb142, 4, none⟩ = some (.slice none 0 0) := (qAb BK142.out 4).trans rfl; have hcz42_5 : w40.cell? ⟨gb142, 5, none⟩ = some (.slice none 0 0) := (qAb BK142.out 5).trans rfl; have hfz42_0 := qAa BK142.out 0; have hfz42_1 := qAa BK142.out 1; have hfz42_2 := qAa BK142.out 2; have hfz42_3 := qAa BK142.out 3; have hfz42_4 := qAa BK142.out 4; have hfz42_5 := qAa BK142.out 5) | ((with_reducible refine qAp (f := 47) rfl ?_); refine goesL_ (some 37) rfl rfl Tryd.func47 (by kernel_rfl) rfl #[.agg #[.int .i64 ((rd_T25 l0_4 x31_2).f0), .bool ((rd_T25 l0_4 x31_2).f1), .int .i64 ((rd_T25 l0_4 x31_2).f2), .string ((rd_T25 l0_4 x31_2).f3), .slice A141_4 ((rd_T25 l0_4 x31_2).f4).length c141_4, .slice A141_5 ((rd_T25 l0_4 x31_2).f5).length c141_5]] rfl (by (try simp only [List.map_toArray, List.map_cons, List.map_nil]); first | done | rfl | (simp only [List.length_drop, List.length_take]; rfl)) ?_; (with_reducible refine (ih k2 (by have := HJ15.out; have := HK2.out; omega) ((rd_T25 l0_4 x31_2).f0) ((rd_T25 l0_4 x31_2).f1) ((rd_T25 l0_4 x31_2).f2) ((rd_T25 l0_4 x31_2).f3) _ _ ((rd_T25 l0_4 x31_2).f4) _ _ ((rd_T25 l0_4 x31_2).f5) t143 _ ?side1 ?side2 ?side3 ?side4 ?side5 A25.out).mono ?_); (case side1 => exact ⟨Tabs.below hT.out (by repeat (first | (with_reducible first | exact HB.out | apply qAd | apply qAc | apply qAe | refine qAf ?_ GE136.out | refine qAf ?_ GE142.out) | exact HB.out))⟩); (case side2 => exact Kd.C_below HR141_4.out (by repeat (first | (with_reducible first | exact HB.out | apply qAd | apply qAc | apply qAe | refine qAf ?_ GE136.out | refine qAf ?_ GE142.out) | exact HB.out))); (case side3 => exact HC141_4.out); (case side4 => exact Kd.C_below HR141_5.out (by repeat (first | (with_reducible first | exact HB.out | apply qAd | apply qAc | apply qAe | refine qAf ?_ GE136.out | refine qAf ?_ GE142.out) | exact HB.out))); (case side5 => exact HC141_5.out); rintro e w43 ⟨rfl, hb⟩; refine ⟨_, rfl, ?_⟩; have n0_ := Aside0.mk (Kd.R_below (by (with_reducible repeat (first | apply Kd.R_alloc | apply Kd.R_drewN | apply Kd.R_drew)); exact (Kd.R_mono (Kd.R_far (p := ⟨gb142, 5, none⟩) (Kd.R_far (p := ⟨gb142, 4, none⟩) (Kd.R_far (p := ⟨gb142, 3, none⟩) (Kd.R_far (p := ⟨gb142, 2, none⟩) (Kd.R_far (p := ⟨gb142, 1, none⟩) (Kd.R_far (p := ⟨gb142, 0, none⟩) (Kd.R_types HO_3.out BK142.out (by decide)) (fun _ hk => hk.2) (.int .i64 ((rd_T25 l0_4 x31_2).f0))) (fun _ hk => hk.2) (.bool ((rd_T25 l0_4 x31_2).f1))) (fun _ hk => hk.2) (.int .i64 ((rd_T25 l0_4 x31_2).f2))) (fun _ hk => hk.2) (.string ((rd_T25 l0_4 x31_2).f3))) (fun _ hk => hk.2) (.slice A141_4 ((rd_T25 l0_4 x31_2).f4).length c141_4)) (fun _ hk => hk.2) (.slice A141_5 ((rd_T25 l0_4 x31_2).f5).length c141_5)) (fun _ h_ => h_.1))) hb); have n1_ := Aside0.mk (qAm (g := gb136) (o := .cells #[.int .i64 a0_0, .bool a0_1, .int .i64 a0_2, .string a0_3, .slice (some ad141) l0_4.length c0_4, .slice A0_5 l0_5.length c0_5] 25 (0, 0)) (by (with_reducible repeat (first | refine qAg ?_ _ | refine qAi ?_ | refine blk_alloc ?_ _)); refine qBd ?_ NB136_142.out _; (with_reducible repeat (first | refine qAg ?_ _ | refine qAi ?_ | refine blk_alloc ?_ _)); refine qBd ?_ NB136_142.out _; (with_reducible repeat (first | refine qAg ?_ _ | refine qAi ?_ | refine blk_alloc ?_ _)); refine qBd ?_ NB136_142.out _; (with_reducible repeat (first | refine qAg ?_ _ | refine qAi ?_ | refine blk_alloc ?_ _)); refine qBd ?_ NB136_142.out _; (with_reducible repeat (first | refine qAg ?_ _ | refine qAi ?_ | refine blk_alloc ?_ _)); refine qBd ?_ NB136_142.out _; (with_reducible repeat (first | refine qAg ?_ _ | refine qAi ?_ | refine blk_alloc ?_ _)); refine qBd ?_ NB136_142.out _; (with_reducible repeat (first | refine qAg ?_ _ | refine qAi ?_ | refine blk_alloc ?_ _)); exact BK136.out) hb); have n2_ := Aside0.mk (qAm (g := gb142) (o := .cells #[.int .i64 ((rd_T25 l0_4 x31_2).f0), .bool ((rd_T25 l0_4 x31_2).f1), .int .i64 ((rd_T25 l0_4 x31_2).f2), .string ((rd_T25 l0_4 x31_2).f3), .slice A141_4 ((rd_T25 l0_4 x31_2).f4).length c141_4, .slice A141_5 ((rd_T25 l0_4 x31_2).f5).length c141_5] 25 (0, 0)) (by (with_reducible repeat (first | refine qAg ?_ _ | refine qAi ?_ | refine blk_alloc ?_ _)); refine qA6 (cs := #[.int .i64 ((rd_T25 l0_4 x31_2).f0), .bool ((rd_T25 l0_4 x31_2).f1), .int .i64 ((rd_T25 l0_4 x31_2).f2), .string ((rd_T25 l0_4 x31_2).f3), .slice A141_4 ((rd_T25 l0_4 x31_2).f4).length c141_4, .slice none 0 0]) ?_ 5 _ rfl; (with_reducible repeat (first | refine qAg ?_ _ | refine qAi ?_ | refine blk_alloc ?_ _)); refine qA6 (cs := #[.int .i64 ((rd_T25 l0_4 x31_2).f0), .bool ((rd_T25 l0_4 x31_2).f1), .int .i64 ((rd_T25 l0_4 x31_2).f2), .string ((rd_T25 l0_4 x31_2).f3), .slice none 0 0, .slice none 0 0]) ?_ 4 _ rfl; (with_reducible repeat (first | refine qAg ?_ _ | refine qAi ?_ | refine blk_alloc ?_ _)); refine qA6 (cs := #[.int .i64 ((rd_T25 l0_4 x31_2).f0), .bool ((rd_T25 l0_4 x31_2).f1), .int .i64 ((rd_T25 l0_4 x31_2).f2), .string (⟨#[]⟩ : ByteArray), .slice none 0 0, .slice none 0 0]) ?_ 3 _ rfl; (with_reducible repeat (first | refine qAg ?_ _ | refine qAi ?_ | refine blk_alloc ?_ _)); refine qA6 (cs := #[.int .i64 ((rd_T25 l0_4 x31_2).f0), .bool ((rd_T25 l0_4 x31_2).f1), .int .i64 0, .string (⟨#[]⟩ : ByteArray), .slice none 0 0, .slice none 0 0]) ?_ 2 _ rfl; (with_reducible repeat (first | refine qAg ?_ _ | refine qAi ?_ | refine blk_alloc ?_ _)); refine qA6 (cs := #[.int .i64 ((rd_T25 l0_4 x31_2).f0), .bool false, .int .i64 0, .string (⟨#[]⟩ : ByteArray), .slice none 0 0, .slice none 0 0]) ?_ 1 _ rfl; (with_reducible repeat (first | refine qAg ?_ _ | refine qAi ?_ | refine blk_alloc ?_ _)); refine qA6 (cs := #[.int .i64 0, .bool false, .int .i64 0, .string (⟨#[]⟩ : ByteArray), .slice none 0 0, .slice none 0 0]) ?_ 0 _ rfl; (with_reducible repeat (first | refine qAg ?_ _ | refine qAi ?_ | refine blk_alloc ?_ _)); exact BK142.out) hb); have n3_ := Aside0.mk (qAj (by repeat (first | (with_reducible first | exact HB.out | apply qAd | apply qAc | apply qAe | refine qAf ?_ GE136.out | refine qAf ?_ GE142.out) | exact HB.out)) hb); clear HO_3; clear BK136; clear BK142; clear HB; have HO_3 := n0_; have BK136 := n1_; have BK142 := n2_; have HB := n3_; clear n0_ n1_ n2_ n3_; (try clear hb); (try clear hb2); (try clear hk); (try clear hi); have hcz44_0 : w43.cell? ⟨gb136, 0, none⟩ = some (.int .i64 a0_0) := (qAb BK136.out 0).trans rfl; have hcz44_1 : w43.cell? ⟨gb136, 1, none⟩ = some (.bool a0_1) := (qAb BK136.out 1).trans rfl; have hcz44_2 : w43.cell? ⟨gb136, 2, none⟩ = some (.int .i64 a0_2) := (qAb BK136.out 2).trans rfl; have hcz44_3 : w43.cell? ⟨gb136, 3, none⟩ = some (.string a0_3) := (qAb BK136.out 3).trans rfl; have hcz44_4 : w43.cell? ⟨gb136, 4, none⟩ = some (.slice (some ad141) l0_4.length c0_4) := (qAb BK136.out 4).trans rfl; have hcz44_5 : w43.cell? ⟨gb136, 5, none⟩ = some (.slice A0_5 l0_5.length c0_5) := (qAb BK136.out 5).trans rfl; have hfz44_0 := qAa BK136.out 0; have hfz44_1 := qAa BK136.out 1; have hfz44_2 := qAa BK136.out 2; have hfz44_3 := qAa BK136.out 3; have hfz44_4 := qAa BK136.out 4; have hfz44_5 := qAa BK136.out 5) | ((with_reducible refine qBr (b := .append) (xs := #[.tmp 50, .tmp 52]) rfl ?_); at_builtin; refine Kd.R_append Kd.string (w0 := w) w.heap.size rfl (.tmp 50) (.tmp 52) 23 9 (.string ⟨#[]⟩) 16 rfl Tryd.underlying23 info9 rfl (by decide) (by omega) u3 x3_2 t143 [.string t143] (fun _ => True) (fun _ => False) rfl rfl ?aP (fun _ hk => hk.elim) ?aF ?aO ?aB ?aS ?aL ?_; (case aP => exact rfl); (case aB => exact (by repeat (first | (with_reducible first | exact HB.out | apply qAd | apply qAc | apply qAe | refine qAf ?_ GE136.out | refine qAf ?_ GE142.out) | exact HB.out))); (case aF => exact (fun _ _ => trivial)); (case aO => exact (by (with_reducible repeat (first | apply Kd.R_alloc | apply Kd.R_drewN | apply Kd.R_drew)); exact HO_3.out)); (case aS => exact (qAn (by repeat (first | (with_reducible first | exact HB.out | apply qAd | apply qAc | apply qAe | refine qAf ?_ GE136.out | refine qAf ?_ GE142.out) | exact HB.out)))); (case aL => have := LMc39.out; omega); intro v150 w45 ho hb hg hat; rw [← Ny149.out] at ho; have n0_ := Aside0.mk (qBs (g := gb136) (o := .cells #[.int .i64 a0_0, .bool a0_1, .int .i64 a0_2, .string a0_3, .slice (some ad141) l0_4.length c0_4, .slice A0_5 l0_5.length c0_5] 25 (0, 0)) (by (with_reducible repeat (first | refine qAg ?_ _ | refine qAi ?_ | refine blk_alloc ?_ _)); exact BK136.out) hg (Kd.R_ne HO_3.out BK136.out (by decide))); have n1_ := Aside0.mk (qBs (g := gb142) (o := .cells #[.int .i64 ((rd_T25 l0_4 x31_2).f0), .bool ((rd_T25 l0_4 x31_2).f1), .int .i64 ((rd_T25 l0_4 x31_2).f2), .string ((rd_T25 l0_4 x31_2).f3), .slice A141_4 ((rd_T25 l0_4 x31_2).f4).length c141_4, .slice A141_5 ((rd_T25 l0_4 x31_2).f5).length c141_5] 25 (0, 0)) (by (with_reducible repeat (first | refine qAg ?_ _ | refine qAi ?_ | refine blk_alloc ?_ _)); exact BK142.out) hg (Kd.R_ne HO_3.out BK142.out (by decide))); have n2_ := Aside0.mk (hb); have n3_ := Aside0.mk (ho); clear BK136; clear BK142; clear HB; clear HO_3; have BK136 := n0_; have BK142 := n1_; have HB := n2_; have HO151 := n3_; clear n0_ n1_ n2_ n3_; clear ho hb hg hat))
              go_roundg k2
              case measure => have := HJ15.out; have := HK2.out; omega
              case rel => exact ⟨(y149), (wrap64 (x31_2 + 1)), (by first | rfl | (simp; done) | (simp [*]; done) | exact congrArg Value.bool (nil_ne _) | exact congrArg Value.bool (nil_eq _) | exact congrArg Value.bool (nil_ne' _)), H', ⟨by have := HJ15.out; have := HK2.out; omega⟩, ⟨by (with_reducible repeat (first | apply Kd.R_alloc | apply Kd.R_drewN | apply Kd.R_drew)); exact HO151.out⟩, ⟨by (with_reducible repeat (first | refine qAg ?_ _ | refine qAi ?_ | refine blk_alloc ?_ _)); exact BK136.out⟩, ⟨by repeat (first | (with_reducible first | exact HB.out | apply qAd | apply qAc | apply qAe | refine qAf ?_ GE136.out | refine qAf ?_ GE142.out) | exact HB.out)⟩⟩
             ·rw [if_neg c39] at H
              exact absurd H (by simp)
           ·rw [if_neg c24] at H
            exact absurd H (by simp)
          ·rw [if_neg c23] at H
           exact absurd H (by simp)
         ·rw [if_neg c22] at H
          have c22b0 : decide (x31_2 < (l0_4.length : Int)) = false := decide_eq_false c22
          clear c22
          replace H := Option.bind_eq_some_iff.mp H
          obtain ⟨t140, A460, H⟩ := H
          replace H : (if a0_0 = 5 then (if 1 + t140.size ≤ 9223372036854775807 then (if ((⟨#[123]⟩ : ByteArray) ++ t140).size + 1 ≤ 9223372036854775807 then (some (((⟨#[123]⟩ : ByteArray) ++ t140) ++ (⟨#[125]⟩ : ByteArray))) else (none)) else (none)) else (if 1 + t140.size ≤ 9223372036854775807 then (if ((⟨#[91]⟩ : ByteArray) ++ t140).size + 1 ≤ 9223372036854775807 then (some (((⟨#[91]⟩ : ByteArray) ++ t140) ++ (⟨#[93]⟩ : ByteArray))) else (none)) else (none))) = some r := H
          have A46 := Aside0.mk A460
          clear A460
          by_cases c47 : a0_0 = 5
          ·rw [if_pos c47] at H
           have c47b0 : (a0_0 == 5) = true := beq_iff_eq.mpr c47
           have c47b1 : (a0_0 != 5) = false := bne_eq_false_iff_eq.mpr c47
           clear c47
           by_cases c48 : 1 + t140.size ≤ 9223372036854775807
           ·rw [if_pos c48] at H
            have c48b0 := eq_true c48
            have c48b1 : decide (1 + t140.size ≤ 9223372036854775807) = true := decide_eq_true c48
            try have c48b2 : (9223372036854775807 < 1 + t140.size) = False := eq_false (Nat.not_lt.2 c48)
            have Sc48 := Aside0.mk c48
            clear c48
            by_cases c49 : ((⟨#[123]⟩ : ByteArray) ++ t140).size + 1 ≤ 9223372036854775807
            ·rw [if_pos c49] at H
             have c49b0 := eq_true c49
             have c49b1 : decide (((⟨#[123]⟩ : ByteArray) ++ t140).size + 1 ≤ 9223372036854775807) = true := decide_eq_true c49
             try have c49b2 : (9223372036854775807 < ((⟨#[123]⟩ : ByteArray) ++ t140).size + 1) = False := eq_false (Nat.not_lt.2 c49)
             have Sc49 := Aside0.mk c49
             clear c49
             obtain rfl := Option.some.inj H
             obtain ⟨Ao50, co50, eo50⟩ := Kd.R_slice HO_3.out
             subst eo50
             go_wp2_with (first | ((with_reducible refine qAp (f := 68) rfl ?_); refine goesL_ (some 56) rfl rfl Tryd.func68 (by kernel_rfl) rfl #[.slice Ao50 x3_2.length co50, .string (⟨#[44]⟩ : ByteArray)] rfl (by (try simp only [List.map_toArray, List.map_cons, List.map_nil]); first | done | rfl | (simp only [List.length_drop, List.length_take]; rfl)) ?_; (with_reducible refine (strings_Join.calls _ _ x3_2 (⟨#[44]⟩ : ByteArray) t140 _ ?side1 ?side2 A46.out).mono ?_); (case side1 => repeat (first | exact (Kd.R_reads' HO_3.out).2.2 | (with_reducible refine Kd.C_alloc ?_ _) | (with_reducible refine Kd.C_drewN ?_ _) | (with_reducible refine Kd.C_drew ?_))); (case side2 => exact (Kd.R_reads' HO_3.out).2.1); rintro e w51 ⟨rfl, hb⟩; refine ⟨_, rfl, ?_⟩; have n0_ := Aside0.mk (Kd.R_below (by (with_reducible repeat (first | apply Kd.R_alloc | apply Kd.R_drewN | apply Kd.R_drew)); exact HO_3.out) hb); have n1_ := Aside0.mk (qAm (g := gb136) (o := .cells #[.int .i64 a0_0, .bool a0_1, .int .i64 a0_2, .string a0_3, .slice A0_4 l0_4.length c0_4, .slice A0_5 l0_5.length c0_5] 25 (0, 0)) (by (with_reducible repeat (first | refine qAg ?_ _ | refine qAi ?_ | refine blk_alloc ?_ _)); exact BK136.out) hb); have n2_ := Aside0.mk (qAj (by repeat (first | (with_reducible first | exact HB.out | apply qAd | apply qAc | apply qAe | refine qAf ?_ GE136.out) | exact HB.out)) hb); clear HO_3; clear BK136; clear HB; have HO_3 := n0_; have BK136 := n1_; have HB := n2_; clear n0_ n1_ n2_; (try clear hb); (try clear hb2); (try clear hk); (try clear hi); have hcz52_0 : w51.cell? ⟨gb136, 0, none⟩ = some (.int .i64 a0_0) := (qAb BK136.out 0).trans rfl; have hcz52_1 : w51.cell? ⟨gb136, 1, none⟩ = some (.bool a0_1) := (qAb BK136.out 1).trans rfl; have hcz52_2 : w51.cell? ⟨gb136, 2, none⟩ = some (.int .i64 a0_2) := (qAb BK136.out 2).trans rfl; have hcz52_3 : w51.cell? ⟨gb136, 3, none⟩ = some (.string a0_3) := (qAb BK136.out 3).trans rfl; have hcz52_4 : w51.cell? ⟨gb136, 4, none⟩ = some (.slice A0_4 l0_4.length c0_4) := (qAb BK136.out 4).trans rfl; have hcz52_5 : w51.cell? ⟨gb136, 5, none⟩ = some (.slice A0_5 l0_5.length c0_5) := (qAb BK136.out 5).trans rfl; have hfz52_0 := qAa BK136.out 0; have hfz52_1 := qAa BK136.out 1; have hfz52_2 := qAa BK136.out 2; have hfz52_3 := qAa BK136.out 3; have hfz52_4 := qAa BK136.out 4; have hfz52_5 := qAa BK136.out 5))
             try any_goals (exfalso; have h_ := Sc48.out; rename_i hb_; (try simp only [ByteArray.size_extract, ByteArray.size_append] at h_ hb_); (try simp only [ByteArray.size, List.size_toArray, List.length_cons, List.length_nil] at h_ hb_); omega)
             try any_goals (exfalso; have h_ := Sc49.out; rename_i hb_; (try simp only [ByteArray.size_extract, ByteArray.size_append] at h_ hb_); (try simp only [ByteArray.size, List.size_toArray, List.length_cons, List.length_nil] at h_ hb_); omega)
             go_ret
             exact ⟨by first | rfl | (simp [qAl, qAk] <;> rfl) | (simp [*, qAl, qAk] <;> rfl), by repeat (first | (with_reducible first | exact HB.out | apply qAd | apply qAc | apply qAe | refine qAf ?_ GE136.out) | exact HB.out)⟩
            ·rw [if_neg c49] at H
             exact absurd H (by simp)
           ·rw [if_neg c48] at H
            exact absurd H (by simp)
          ·rw [if_neg c47] at H
           have c47b0 : (a0_0 == 5) = false := beq_eq_false_iff_ne.mpr c47
           have c47b1 : (a0_0 != 5) = true := bne_iff_ne.mpr c47
           by_cases c53 : 1 + t140.size ≤ 9223372036854775807
           ·rw [if_pos c53] at H
            have c53b0 := eq_true c53
            have c53b1 : decide (1 + t140.size ≤ 9223372036854775807) = true := decide_eq_true c53
            try have c53b2 : (9223372036854775807 < 1 + t140.size) = False := eq_false (Nat.not_lt.2 c53)
            have Sc53 := Aside0.mk c53
            clear c53
            by_cases c54 : ((⟨#[91]⟩ : ByteArray) ++ t140).size + 1 ≤ 9223372036854775807
            ·rw [if_pos c54] at H
             have c54b0 := eq_true c54
             have c54b1 : decide (((⟨#[91]⟩ : ByteArray) ++ t140).size + 1 ≤ 9223372036854775807) = true := decide_eq_true c54
             try have c54b2 : (9223372036854775807 < ((⟨#[91]⟩ : ByteArray) ++ t140).size + 1) = False := eq_false (Nat.not_lt.2 c54)
             have Sc54 := Aside0.mk c54
             clear c54
             obtain rfl := Option.some.inj H
             obtain ⟨Ao55, co55, eo55⟩ := Kd.R_slice HO_3.out
             subst eo55
             go_wp2_with (first | ((with_reducible refine qAp (f := 68) rfl ?_); refine goesL_ (some 56) rfl rfl Tryd.func68 (by kernel_rfl) rfl #[.slice Ao55 x3_2.length co55, .string (⟨#[44]⟩ : ByteArray)] rfl (by (try simp only [List.map_toArray, List.map_cons, List.map_nil]); first | done | rfl | (simp only [List.length_drop, List.length_take]; rfl)) ?_; (with_reducible refine (strings_Join.calls _ _ x3_2 (⟨#[44]⟩ : ByteArray) t140 _ ?side1 ?side2 A46.out).mono ?_); (case side1 => repeat (first | exact (Kd.R_reads' HO_3.out).2.2 | (with_reducible refine Kd.C_alloc ?_ _) | (with_reducible refine Kd.C_drewN ?_ _) | (with_reducible refine Kd.C_drew ?_))); (case side2 => exact (Kd.R_reads' HO_3.out).2.1); rintro e w56 ⟨rfl, hb⟩; refine ⟨_, rfl, ?_⟩; have n0_ := Aside0.mk (Kd.R_below (by (with_reducible repeat (first | apply Kd.R_alloc | apply Kd.R_drewN | apply Kd.R_drew)); exact HO_3.out) hb); have n1_ := Aside0.mk (qAm (g := gb136) (o := .cells #[.int .i64 a0_0, .bool a0_1, .int .i64 a0_2, .string a0_3, .slice A0_4 l0_4.length c0_4, .slice A0_5 l0_5.length c0_5] 25 (0, 0)) (by (with_reducible repeat (first | refine qAg ?_ _ | refine qAi ?_ | refine blk_alloc ?_ _)); exact BK136.out) hb); have n2_ := Aside0.mk (qAj (by repeat (first | (with_reducible first | exact HB.out | apply qAd | apply qAc | apply qAe | refine qAf ?_ GE136.out) | exact HB.out)) hb); clear HO_3; clear BK136; clear HB; have HO_3 := n0_; have BK136 := n1_; have HB := n2_; clear n0_ n1_ n2_; (try clear hb); (try clear hb2); (try clear hk); (try clear hi); have hcz57_0 : w56.cell? ⟨gb136, 0, none⟩ = some (.int .i64 a0_0) := (qAb BK136.out 0).trans rfl; have hcz57_1 : w56.cell? ⟨gb136, 1, none⟩ = some (.bool a0_1) := (qAb BK136.out 1).trans rfl; have hcz57_2 : w56.cell? ⟨gb136, 2, none⟩ = some (.int .i64 a0_2) := (qAb BK136.out 2).trans rfl; have hcz57_3 : w56.cell? ⟨gb136, 3, none⟩ = some (.string a0_3) := (qAb BK136.out 3).trans rfl; have hcz57_4 : w56.cell? ⟨gb136, 4, none⟩ = some (.slice A0_4 l0_4.length c0_4) := (qAb BK136.out 4).trans rfl; have hcz57_5 : w56.cell? ⟨gb136, 5, none⟩ = some (.slice A0_5 l0_5.length c0_5) := (qAb BK136.out 5).trans rfl; have hfz57_0 := qAa BK136.out 0; have hfz57_1 := qAa BK136.out 1; have hfz57_2 := qAa BK136.out 2; have hfz57_3 := qAa BK136.out 3; have hfz57_4 := qAa BK136.out 4; have hfz57_5 := qAa BK136.out 5))
             try any_goals (exfalso; have h_ := Sc53.out; rename_i hb_; (try simp only [ByteArray.size_extract, ByteArray.size_append] at h_ hb_); (try simp only [ByteArray.size, List.size_toArray, List.length_cons, List.length_nil] at h_ hb_); omega)
             try any_goals (exfalso; have h_ := Sc54.out; rename_i hb_; (try simp only [ByteArray.size_extract, ByteArray.size_append] at h_ hb_); (try simp only [ByteArray.size, List.size_toArray, List.length_cons, List.length_nil] at h_ hb_); omega)
             go_ret
             exact ⟨by first | rfl | (simp [qAl, qAk] <;> rfl) | (simp [*, qAl, qAk] <;> rfl), by repeat (first | (with_reducible first | exact HB.out | apply qAd | apply qAc | apply qAe | refine qAf ?_ GE136.out) | exact HB.out)⟩
            ·rw [if_neg c54] at H
             exact absurd H (by simp)
           ·rw [if_neg c53] at H
            exact absurd H (by simp)
      ·replace c20 := Bool.eq_false_iff.mpr c20
       subst c20
       have H1 : (some (⟨#[110, 117, 108, 108]⟩ : ByteArray)) = some r := by rw [if_neg (show ¬ (false = true) by decide)] at H; exact H
       clear H
       have H := H1
       clear H1
       obtain rfl := Option.some.inj H
       go_wp2
       go_ret
       exact ⟨by first | rfl | (simp [qAl, qAk] <;> rfl) | (simp [*, qAl, qAk] <;> rfl), by repeat (first | (with_reducible first | exact HB.out | apply qAd | apply qAc | apply qAe | refine qAf ?_ GE136.out) | exact HB.out)⟩
end Go.Proofs.YtbnoihpooeombaaDoor.P

namespace Go.Proofs.YtbnoihpooeombaaDoor.P
open Go.Proofs.YtbnoihpooeombaaDoor.X
open Go.RowKit Go.Proofs.YtbnoihpooeombaaDoorW.PrintWords Go.Proofs.YtbnoihpooeombaaDoorW.PrintLast Go.Proofs.YtbnoihpooeombaaDoorW.PrintMore
attribute [local go_sem] qAr qAx
set_option linter.unusedVariables false
set_option linter.unusedSimpArgs false
def value_Lay.f (k : Nat) (a0_0 : Int) (a0_1 : Bool) (a0_2 : Int) (a0_3 : ByteArray) (l0_4 : List (S25)) (l0_5 : List ByteArray) : Option (ByteArray × Int) := (value_May.f a0_0 a0_1 a0_2 a0_3 l0_4 l0_5).bind fun t153 => (if t153 = true then ((value_text.f k a0_0 a0_1 a0_2 a0_3 l0_4 l0_5).bind fun t154 => (some (t154, 0))) else (some ((⟨#[]⟩ : ByteArray), 2)))
theorem value_Lay.mono : ∀ a0 a1 a2 a3 a4 a5 k, LeO (value_Lay.f k a0 a1 a2 a3 a4 a5) (value_Lay.f (k + 1) a0 a1 a2 a3 a4 a5) := by
 intro a0 a1 a2 a3 a4 a5 k
 unfold value_Lay.f
 repeat' first
   | (with_reducible exact value_text.mono _ _ _ _ _ _ _)
   | (with_reducible exact LeO.refl _)
   | (with_reducible exact LeO.none _)
   | (with_reducible refine LeO.ite ?_ ?_)
   | (with_reducible refine LeO.bind ?_ (fun _ => ?_))
   | exact value_text.mono _ _ _ _ _ _ _
   | exact LeO.none _
   | refine LeO.ite ?_ ?_
   | refine LeO.bind ?_ (fun _ => ?_)
set_option maxHeartbeats 8000000 in
set_option maxRecDepth 100000 in
theorem value_Lay.calls (k : Nat) (a0_0 : Int) (a0_1 : Bool) (a0_2 : Int) (a0_3 : ByteArray) (A0_4 : Option Addr) (c0_4 : Nat) (l0_4 : List (S25)) (A0_5 : Option Addr) (c0_5 : Nat) (l0_5 : List ByteArray) (r1 : ByteArray) (r2 : Int) (w : World) (hT : Aside0 (Tabs w)) (hr0_4 : Kd.C k25 w A0_4 l0_4.length l0_4) (hc0_4 : l0_4.length ≤ c0_4) (hr0_5 : Kd.C Kd.string w A0_5 l0_5.length l0_5) (hc0_5 : l0_5.length ≤ c0_5) (h : value_Lay.f k a0_0 a0_1 a0_2 a0_3 l0_4 l0_5 = some (r1, r2)) :
  Calls Tryd.prog 16 #[.agg #[.int .i64 a0_0, .bool a0_1, .int .i64 a0_2, .string a0_3, .slice A0_4 l0_4.length c0_4, .slice A0_5 l0_5.length c0_5]] w fun e w' => e = .returned (.tuple #[.string r1, .int .i64 r2]) ∧ Below w.heap.size w w' := by
 have hu25 := Tryd.underlying25
 have HR0_4 := Aside0.mk hr0_4
 have HC0_4 := Aside0.mk hc0_4
 clear hr0_4 hc0_4
 have HR0_5 := Aside0.mk hr0_5
 have HC0_5 := Aside0.mk hc0_5
 clear hr0_5 hc0_5
 have HB := Aside0.mk (Below.refl w.heap.size w)
 have H : ((value_May.f a0_0 a0_1 a0_2 a0_3 l0_4 l0_5).bind fun t153 => (if t153 = true then ((value_text.f k a0_0 a0_1 a0_2 a0_3 l0_4 l0_5).bind fun t154 => (some (t154, 0))) else (some ((⟨#[]⟩ : ByteArray), 2)))) = some (r1, r2) := h
 clear h
 replace H := Option.bind_eq_some_iff.mp H
 obtain ⟨t153, A20, H⟩ := H
 replace H : (if t153 = true then ((value_text.f k a0_0 a0_1 a0_2 a0_3 l0_4 l0_5).bind fun t154 => (some (t154, 0))) else (some ((⟨#[]⟩ : ByteArray), 2))) = some (r1, r2) := H
 have A2 := Aside0.mk A20
 clear A20
 by_cases c3 : t153 = true
 ·subst c3
  have H1 : ((value_text.f k a0_0 a0_1 a0_2 a0_3 l0_4 l0_5).bind fun t154 => (some (t154, 0))) = some (r1, r2) := by rw [if_pos rfl] at H; exact H
  clear H
  have H := H1
  clear H1
  replace H := Option.bind_eq_some_iff.mp H
  obtain ⟨t154, A40, H⟩ := H
  replace H : (some (t154, 0)) = some (r1, r2) := H
  have A4 := Aside0.mk A40
  clear A40
  simp only [Option.some.injEq, Prod.mk.injEq] at H
  obtain ⟨rfl, rfl⟩ := H
  go_enter Tryd.func16, Tryd.ntmps16
  go_wp2_with (first | ((with_reducible refine qAy (N := 1) rfl ?_); refine qAv ?hg (N := 1) ?hd (cs := #[.int .i64 a0_0, .bool a0_1, .int .i64 a0_2, .string a0_3, .slice A0_4 l0_4.length c0_4, .slice A0_5 l0_5.length c0_5]) (t := 25) ?hr ?_; (case hd => rfl); (case hg => rfl); (case hr => first | (go_simp; done) | (go_simp; rfl)); intro gb152 hg w5 hbox hb; have n0_ := Aside0.mk (qAj (by repeat (first | (with_reducible first | exact HB.out | apply qAd | apply qAc | apply qAe) | exact HB.out)) hb); have n1_ := Aside0.mk (hbox); have n2_ := Aside0.mk ((by rw [hg]; exact (qAn (by repeat (first | (with_reducible first | exact HB.out | apply qAd | apply qAc | apply qAe) | exact HB.out))) : w.heap.size ≤ gb152)); have n3_ := Aside0.mk ((by rw [hg]; exact (qAn (by repeat (first | (with_reducible first | exact HB.out | apply qAd | apply qAc | apply qAe) | exact HB.out))) : w.heap.size ≤ gb152)); clear HB; have HB := n0_; have BK152 := n1_; have GW152 := n2_; have GE152 := n3_; clear n0_ n1_ n2_ n3_; clear hb hbox hg; have hcz6_0 : w5.cell? ⟨gb152, 0, none⟩ = some (.int .i64 a0_0) := (qAb BK152.out 0).trans rfl; have hcz6_1 : w5.cell? ⟨gb152, 1, none⟩ = some (.bool a0_1) := (qAb BK152.out 1).trans rfl; have hcz6_2 : w5.cell? ⟨gb152, 2, none⟩ = some (.int .i64 a0_2) := (qAb BK152.out 2).trans rfl; have hcz6_3 : w5.cell? ⟨gb152, 3, none⟩ = some (.string a0_3) := (qAb BK152.out 3).trans rfl; have hcz6_4 : w5.cell? ⟨gb152, 4, none⟩ = some (.slice A0_4 l0_4.length c0_4) := (qAb BK152.out 4).trans rfl; have hcz6_5 : w5.cell? ⟨gb152, 5, none⟩ = some (.slice A0_5 l0_5.length c0_5) := (qAb BK152.out 5).trans rfl; have hfz6_0 := qAa BK152.out 0; have hfz6_1 := qAa BK152.out 1; have hfz6_2 := qAa BK152.out 2; have hfz6_3 := qAa BK152.out 3; have hfz6_4 := qAa BK152.out 4; have hfz6_5 := qAa BK152.out 5) | ((with_reducible refine qAp (f := 21) rfl ?_); refine goesL_ (some 5) rfl rfl Tryd.func21 (by kernel_rfl) rfl #[.agg #[.int .i64 a0_0, .bool a0_1, .int .i64 a0_2, .string a0_3, .slice A0_4 l0_4.length c0_4, .slice A0_5 l0_5.length c0_5]] rfl (by (try simp only [List.map_toArray, List.map_cons, List.map_nil]); first | done | rfl | (simp only [List.length_drop, List.length_take]; rfl)) ?_; (with_reducible refine (value_May.calls a0_0 a0_1 a0_2 a0_3 _ _ l0_4 _ _ l0_5 true _ ?side1 ?side2 ?side3 ?side4 A2.out).mono ?_); (case side1 => repeat (first | exact (Kd.C_below HR0_4.out HB.out) | (with_reducible refine Kd.C_alloc ?_ _) | (with_reducible refine Kd.C_drewN ?_ _) | (with_reducible refine Kd.C_drew ?_))); (case side2 => exact HC0_4.out); (case side3 => repeat (first | exact (Kd.C_below HR0_5.out HB.out) | (with_reducible refine Kd.C_alloc ?_ _) | (with_reducible refine Kd.C_drewN ?_ _) | (with_reducible refine Kd.C_drew ?_))); (case side4 => exact HC0_5.out); rintro e w7 ⟨rfl, hb⟩; refine ⟨_, rfl, ?_⟩; have n0_ := Aside0.mk (qAm (g := gb152) (o := .cells #[.int .i64 a0_0, .bool a0_1, .int .i64 a0_2, .string a0_3, .slice A0_4 l0_4.length c0_4, .slice A0_5 l0_5.length c0_5] 25 (0, 0)) (by (with_reducible repeat (first | refine qAg ?_ _ | refine qAi ?_ | refine blk_alloc ?_ _)); exact BK152.out) hb); have n1_ := Aside0.mk (qAj (by repeat (first | (with_reducible first | exact HB.out | apply qAd | apply qAc | apply qAe | refine qAf ?_ GE152.out) | exact HB.out)) hb); clear BK152; clear HB; have BK152 := n0_; have HB := n1_; clear n0_ n1_; (try clear hb); (try clear hb2); (try clear hk); (try clear hi); have hcz8_0 : w7.cell? ⟨gb152, 0, none⟩ = some (.int .i64 a0_0) := (qAb BK152.out 0).trans rfl; have hcz8_1 : w7.cell? ⟨gb152, 1, none⟩ = some (.bool a0_1) := (qAb BK152.out 1).trans rfl; have hcz8_2 : w7.cell? ⟨gb152, 2, none⟩ = some (.int .i64 a0_2) := (qAb BK152.out 2).trans rfl; have hcz8_3 : w7.cell? ⟨gb152, 3, none⟩ = some (.string a0_3) := (qAb BK152.out 3).trans rfl; have hcz8_4 : w7.cell? ⟨gb152, 4, none⟩ = some (.slice A0_4 l0_4.length c0_4) := (qAb BK152.out 4).trans rfl; have hcz8_5 : w7.cell? ⟨gb152, 5, none⟩ = some (.slice A0_5 l0_5.length c0_5) := (qAb BK152.out 5).trans rfl; have hfz8_0 := qAa BK152.out 0; have hfz8_1 := qAa BK152.out 1; have hfz8_2 := qAa BK152.out 2; have hfz8_3 := qAa BK152.out 3; have hfz8_4 := qAa BK152.out 4; have hfz8_5 := qAa BK152.out 5) | ((with_reducible refine qAp (f := 47) rfl ?_); refine goesL_ (some 8) rfl rfl Tryd.func47 (by kernel_rfl) rfl #[.agg #[.int .i64 a0_0, .bool a0_1, .int .i64 a0_2, .string a0_3, .slice A0_4 l0_4.length c0_4, .slice A0_5 l0_5.length c0_5]] rfl (by (try simp only [List.map_toArray, List.map_cons, List.map_nil]); first | done | rfl | (simp only [List.length_drop, List.length_take]; rfl)) ?_; (with_reducible refine (value_text.calls k a0_0 a0_1 a0_2 a0_3 _ _ l0_4 _ _ l0_5 t154 _ ?side1 ?side2 ?side3 ?side4 ?side5 A4.out).mono ?_); (case side1 => exact ⟨Tabs.below hT.out (by repeat (first | (with_reducible first | exact HB.out | apply qAd | apply qAc | apply qAe | refine qAf ?_ GE152.out) | exact HB.out))⟩); (case side2 => repeat (first | exact (Kd.C_below HR0_4.out HB.out) | (with_reducible refine Kd.C_alloc ?_ _) | (with_reducible refine Kd.C_drewN ?_ _) | (with_reducible refine Kd.C_drew ?_))); (case side3 => exact HC0_4.out); (case side4 => repeat (first | exact (Kd.C_below HR0_5.out HB.out) | (with_reducible refine Kd.C_alloc ?_ _) | (with_reducible refine Kd.C_drewN ?_ _) | (with_reducible refine Kd.C_drew ?_))); (case side5 => exact HC0_5.out); rintro e w9 ⟨rfl, hb⟩; refine ⟨_, rfl, ?_⟩; have n0_ := Aside0.mk (qAm (g := gb152) (o := .cells #[.int .i64 a0_0, .bool a0_1, .int .i64 a0_2, .string a0_3, .slice A0_4 l0_4.length c0_4, .slice A0_5 l0_5.length c0_5] 25 (0, 0)) (by (with_reducible repeat (first | refine qAg ?_ _ | refine qAi ?_ | refine blk_alloc ?_ _)); exact BK152.out) hb); have n1_ := Aside0.mk (qAj (by repeat (first | (with_reducible first | exact HB.out | apply qAd | apply qAc | apply qAe | refine qAf ?_ GE152.out) | exact HB.out)) hb); clear BK152; clear HB; have BK152 := n0_; have HB := n1_; clear n0_ n1_; (try clear hb); (try clear hb2); (try clear hk); (try clear hi)))
  go_ret2
  exact ⟨by first | rfl | (simp [qAl, qAk] <;> rfl) | (simp [*, qAl, qAk] <;> rfl), by repeat (first | (with_reducible first | exact HB.out | apply qAd | apply qAc | apply qAe | refine qAf ?_ GE152.out) | exact HB.out)⟩
 ·replace c3 := Bool.eq_false_iff.mpr c3
  subst c3
  have H1 : (some ((⟨#[]⟩ : ByteArray), 2)) = some (r1, r2) := by rw [if_neg (show ¬ (false = true) by decide)] at H; exact H
  clear H
  have H := H1
  clear H1
  simp only [Option.some.injEq, Prod.mk.injEq] at H
  obtain ⟨rfl, rfl⟩ := H
  go_enter Tryd.func16, Tryd.ntmps16
  go_wp2_with (first | ((with_reducible refine qAy (N := 1) rfl ?_); refine qAv ?hg (N := 1) ?hd (cs := #[.int .i64 a0_0, .bool a0_1, .int .i64 a0_2, .string a0_3, .slice A0_4 l0_4.length c0_4, .slice A0_5 l0_5.length c0_5]) (t := 25) ?hr ?_; (case hd => rfl); (case hg => rfl); (case hr => first | (go_simp; done) | (go_simp; rfl)); intro gb152 hg w10 hbox hb; have n0_ := Aside0.mk (qAj (by repeat (first | (with_reducible first | exact HB.out | apply qAd | apply qAc | apply qAe) | exact HB.out)) hb); have n1_ := Aside0.mk (hbox); have n2_ := Aside0.mk ((by rw [hg]; exact (qAn (by repeat (first | (with_reducible first | exact HB.out | apply qAd | apply qAc | apply qAe) | exact HB.out))) : w.heap.size ≤ gb152)); have n3_ := Aside0.mk ((by rw [hg]; exact (qAn (by repeat (first | (with_reducible first | exact HB.out | apply qAd | apply qAc | apply qAe) | exact HB.out))) : w.heap.size ≤ gb152)); clear HB; have HB := n0_; have BK152 := n1_; have GW152 := n2_; have GE152 := n3_; clear n0_ n1_ n2_ n3_; clear hb hbox hg; have hcz11_0 : w10.cell? ⟨gb152, 0, none⟩ = some (.int .i64 a0_0) := (qAb BK152.out 0).trans rfl; have hcz11_1 : w10.cell? ⟨gb152, 1, none⟩ = some (.bool a0_1) := (qAb BK152.out 1).trans rfl; have hcz11_2 : w10.cell? ⟨gb152, 2, none⟩ = some (.int .i64 a0_2) := (qAb BK152.out 2).trans rfl; have hcz11_3 : w10.cell? ⟨gb152, 3, none⟩ = some (.string a0_3) := (qAb BK152.out 3).trans rfl; have hcz11_4 : w10.cell? ⟨gb152, 4, none⟩ = some (.slice A0_4 l0_4.length c0_4) := (qAb BK152.out 4).trans rfl; have hcz11_5 : w10.cell? ⟨gb152, 5, none⟩ = some (.slice A0_5 l0_5.length c0_5) := (qAb BK152.out 5).trans rfl; have hfz11_0 := qAa BK152.out 0; have hfz11_1 := qAa BK152.out 1; have hfz11_2 := qAa BK152.out 2; have hfz11_3 := qAa BK152.out 3; have hfz11_4 := qAa BK152.out 4; have hfz11_5 := qAa BK152.out 5) | ((with_reducible refine qAp (f := 21) rfl ?_); refine goesL_ (some 5) rfl rfl Tryd.func21 (by kernel_rfl) rfl #[.agg #[.int .i64 a0_0, .bool a0_1, .int .i64 a0_2, .string a0_3, .slice A0_4 l0_4.length c0_4, .slice A0_5 l0_5.length c0_5]] rfl (by (try simp only [List.map_toArray, List.map_cons, List.map_nil]); first | done | rfl | (simp only [List.length_drop, List.length_take]; rfl)) ?_; (with_reducible refine (value_May.calls a0_0 a0_1 a0_2 a0_3 _ _ l0_4 _ _ l0_5 false _ ?side1 ?side2 ?side3 ?side4 A2.out).mono ?_); (case side1 => repeat (first | exact (Kd.C_below HR0_4.out HB.out) | (with_reducible refine Kd.C_alloc ?_ _) | (with_reducible refine Kd.C_drewN ?_ _) | (with_reducible refine Kd.C_drew ?_))); (case side2 => exact HC0_4.out); (case side3 => repeat (first | exact (Kd.C_below HR0_5.out HB.out) | (with_reducible refine Kd.C_alloc ?_ _) | (with_reducible refine Kd.C_drewN ?_ _) | (with_reducible refine Kd.C_drew ?_))); (case side4 => exact HC0_5.out); rintro e w12 ⟨rfl, hb⟩; refine ⟨_, rfl, ?_⟩; have n0_ := Aside0.mk (qAm (g := gb152) (o := .cells #[.int .i64 a0_0, .bool a0_1, .int .i64 a0_2, .string a0_3, .slice A0_4 l0_4.length c0_4, .slice A0_5 l0_5.length c0_5] 25 (0, 0)) (by (with_reducible repeat (first | refine qAg ?_ _ | refine qAi ?_ | refine blk_alloc ?_ _)); exact BK152.out) hb); have n1_ := Aside0.mk (qAj (by repeat (first | (with_reducible first | exact HB.out | apply qAd | apply qAc | apply qAe | refine qAf ?_ GE152.out) | exact HB.out)) hb); clear BK152; clear HB; have BK152 := n0_; have HB := n1_; clear n0_ n1_; (try clear hb); (try clear hb2); (try clear hk); (try clear hi)))
  go_ret2
  exact ⟨by first | rfl | (simp [qAl, qAk] <;> rfl) | (simp [*, qAl, qAk] <;> rfl), by repeat (first | (with_reducible first | exact HB.out | apply qAd | apply qAc | apply qAe | refine qAf ?_ GE152.out) | exact HB.out)⟩
end Go.Proofs.YtbnoihpooeombaaDoor.P

namespace Go.Proofs.YtbnoihpooeombaaDoor.X
open Go.RowKit Go.Proofs.YtbnoihpooeombaaDoorW.PrintWords Go.Proofs.YtbnoihpooeombaaDoor.P
set_option linter.unusedVariables false
set_option linter.unusedSimpArgs false
theorem qGt : ∀ ps : List (List Int), Lib.join (ps.map (·.map u8)) [44] = (joinC 44 ps).map u8
  | [] => rfl
  | [x] => by simp [Lib.join_one, joinC]
  | x :: y :: l => by
    have ih := qGt (y :: l)
    have e : Lib.join ((x :: y :: l).map (·.map u8)) [44] = x.map u8 ++ [44] ++ Lib.join ((y :: l).map (·.map u8)) [44] := by
      simp [Lib.join, List.intercalate]
    rw [e, ih, joinC, List.map_append, List.map_cons, List.append_assoc]
    rfl
theorem qHf (ps : List (List Int)) : joinB (ps.map strOfNums) ⟨#[44]⟩ = strOfNums (joinC 44 ps) := by
  unfold joinB
  rw [qBp, ← qGt, List.map_map]
  rfl
theorem qCd (l : List Int) : (strOfNums l).size = l.length := by rw [qBp, qGc, List.length_map]
theorem qCx (a b : List Int) : strOfNums a ++ strOfNums b = strOfNums (a ++ b) := by
  rw [qBp, qBp, qBp, qG3, List.map_append]
theorem qGa (s : ByteArray) : strOfNums (qA5 s) = s := qEv s
theorem qDg (c : Int) : ∀ (l : List (List Int)) (p : List Int), p ∈ l → p.length ≤ (joinC c l).length
  | [], p, h => by cases h
  | [x], p, h => by have : p = x := by simpa using h
                    subst this; simp [joinC]
  | x :: y :: l, p, h => by
    simp only [joinC, List.length_append, List.length_cons]
    rcases List.mem_cons.1 h with rfl | h
    · omega
    · have := qDg c (y :: l) p h; omega
theorem qF8 (d : Nat) (x : S25) (hs : okV (d + 1) x) (o : Bool) (ho : o = true ↔ x.f0 = 5) (hl : (joinC 44 (qAt (textI d) o x.f4 x.f5)).length + 2 ≤ 140737488355000)
    (hc : ∀ y ∈ x.f4, (textI d y).length ≤ 140737488355000 → Ev (fun k => value_text.f k y.f0 y.f1 y.f2 y.f3 y.f4 y.f5) (textB d y)) :
    ∀ (j i : Nat), x.f4.length - i = j → i ≤ x.f4.length → Ev (fun k => value_text.l0 k (((qAt (textI d) o x.f4 x.f5).take i).map strOfNums) x.f4 (x.f4.length : Int) (i : Int) x.f0 x.f1 x.f2 x.f3 x.f4 x.f5) (strOfNums ((if o then 123 else 91) :: (joinC 44 (qAt (textI d) o x.f4 x.f5) ++ [if o then 125 else 93]))) := by
  obtain ⟨hk0, hk5, hn0, hn1, hs3, hs4, hs5, hsk, hkl, hse⟩ := hs
  have hpl := qCz (textI d) o x.f4 x.f5
  intro j
  induction j with
  | zero =>
    intro i hj hi
    refine ⟨1, fun k hk => ?_⟩
    obtain ⟨k, rfl⟩ : ∃ m, k = m + 1 := ⟨k - 1, by omega⟩
    simp only [value_text.l0]
    have hJ : strings_Join.f ((qAt (textI d) o x.f4 x.f5).map strOfNums) ⟨#[44]⟩ = some (strOfNums (joinC 44 (qAt (textI d) o x.f4 x.f5))) := by
      unfold strings_Join.f
      rw [qHf, if_pos ⟨by rw [qCd]; omega, by rw [List.length_map, hpl]; omega⟩]
    rw [if_neg (by omega), List.take_of_length_le (by omega), hJ]
    simp only [Option.bind_some]
    have e1 : (⟨#[123]⟩ : ByteArray) = strOfNums [123] := rfl
    have e2 : (⟨#[125]⟩ : ByteArray) = strOfNums [125] := rfl
    have e3 : (⟨#[91]⟩ : ByteArray) = strOfNums [91] := rfl
    have e4 : (⟨#[93]⟩ : ByteArray) = strOfNums [93] := rfl
    by_cases c : x.f0 = 5
    · rw [if_pos c, e1, e2, qCx, qCx, qCd, qCd, if_pos (by omega), if_pos (by simp; omega), ho.2 c]
      rfl
    · have : o = false := by cases o with
        | false => rfl
        | true => exact absurd (ho.1 rfl) c
      rw [if_neg c, e3, e4, qCx, qCx, qCd, qCd, if_pos (by omega), if_pos (by simp; omega), this]
      rfl
  | succ j ih =>
    intro i hj hi
    have hlt : i < x.f4.length := by omega
    have hkey : o = true → i < x.f5.length := fun h => by have := hkl (ho.1 h); omega
    have hpg := qC0 (textI d) o i x.f4 x.f5 hlt hkey
    have hlt2 : i < (qAt (textI d) o x.f4 x.f5).length := by omega
    have hpe : (qAt (textI d) o x.f4 x.f5)[i] = (if ho : o = true then quoteL (x.f5[i]'(hkey ho)) ++ 58 :: textI d x.f4[i] else textI d x.f4[i]) := by
      rw [List.getElem?_eq_getElem hlt2] at hpg; exact Option.some.inj hpg
    have hpm := qDg 44 _ _ (List.getElem_mem hlt2)
    have htk : (qAt (textI d) o x.f4 x.f5).take (i + 1) = (qAt (textI d) o x.f4 x.f5).take i ++ [(qAt (textI d) o x.f4 x.f5)[i]] := (List.take_append_getElem hlt2).symm
    have hlen : (textI d x.f4[i]).length ≤ ((qAt (textI d) o x.f4 x.f5)[i]).length := by
      rw [hpe]
      split
      · simp only [List.length_append, List.length_cons]; omega
      · omega
    obtain ⟨K1, hK1⟩ := hc x.f4[i] (List.getElem_mem hlt) (by omega)
    obtain ⟨K2, hK2⟩ := ih (i + 1) (by omega) (by omega)
    have E3 : Aside0 (wrap64 ((i : Int) + 1) = ((i + 1 : Nat) : Int)) := ⟨qBb (by omega) (by omega)⟩
    have hacc : (((qAt (textI d) o x.f4 x.f5).take i).map strOfNums).length < 8796093022208 := by rw [List.length_map, List.length_take]; omega
    by_cases c : x.f0 = 5
    · have hot := ho.2 c
      have hk := hkey hot
      obtain ⟨K3, hK3⟩ := qFm (x.f5[i]'hk) (by have := hsk _ (List.getElem_mem hk); omega)
      refine ⟨K1 + K2 + K3 + 1, fun k hk' => ?_⟩
      obtain ⟨k, rfl⟩ : ∃ m, k = m + 1 := ⟨k - 1, by omega⟩
      have hK1 := hK1 k (by omega)
      have hK2 := hK2 k (by omega)
      have hK3 := hK3 k (by omega)
      simp only at hK1 hK2 hK3
      simp only [value_text.l0]
      rw [if_pos (by omega), if_pos (by omega), if_pos (by omega), qB1 x.f4 i hlt, hK1]
      simp only [Option.bind_some]
      rw [if_pos c, if_pos (by omega), qAz x.f5 i hk, hK3]
      simp only [Option.bind_some]
      have e1 : (⟨#[58]⟩ : ByteArray) = strOfNums [58] := rfl
      have e2 : quoteB (x.f5[i]'hk) ++ (⟨#[58]⟩ : ByteArray) ++ textB d x.f4[i] = strOfNums ((qAt (textI d) o x.f4 x.f5)[i]) := by
        rw [hpe, dif_pos hot, quoteB, textB, e1, qCx, qCx]
        simp
      have hq : (quoteB (x.f5[i]'hk)).size + 1 + (textB d x.f4[i]).size ≤ 140737488355000 := by
        have := congrArg ByteArray.size e2
        rw [ByteArray.size_append, ByteArray.size_append, qCd] at this
        have e5 : (⟨#[58]⟩ : ByteArray).size = 1 := rfl
        omega
      rw [if_pos (by omega), if_pos (by rw [ByteArray.size_append]; have e5 : (⟨#[58]⟩ : ByteArray).size = 1 := rfl; omega), if_pos hacc, e2, E3.out]
      rw [htk, List.map_append] at hK2
      exact hK2
    · have hof : o = false := by cases o with
        | false => rfl
        | true => exact absurd (ho.1 rfl) c
      refine ⟨K1 + K2 + 1, fun k hk' => ?_⟩
      obtain ⟨k, rfl⟩ : ∃ m, k = m + 1 := ⟨k - 1, by omega⟩
      have hK1 := hK1 k (by omega)
      have hK2 := hK2 k (by omega)
      simp only at hK1 hK2
      simp only [value_text.l0]
      rw [if_pos (by omega), if_pos (by omega), if_pos (by omega), qB1 x.f4 i hlt, hK1]
      simp only [Option.bind_some]
      rw [if_neg c, if_pos hacc, E3.out]
      have e2 : textB d x.f4[i] = strOfNums ((qAt (textI d) o x.f4 x.f5)[i]) := by
        rw [hpe, dif_neg (by simp [hof]), textB]
      rw [e2]
      rw [htk, List.map_append] at hK2
      exact hK2
theorem qHo : ∀ (d : Nat) (x : S25), okV d x → (textI d x).length ≤ 140737488355000 → Ev (fun k => value_text.f k x.f0 x.f1 x.f2 x.f3 x.f4 x.f5) (textB d x) := by
  intro d
  induction d with
  | zero => intro x h; exact h.elim
  | succ d ih =>
    intro x hs hl
    have hs' := hs
    obtain ⟨hk0, hk5, hn0, hn1, hs3, hs4, hs5, hsk, hkl, hse⟩ := hs
    have hcase : x.f0 = 0 ∨ x.f0 = 1 ∨ x.f0 = 2 ∨ x.f0 = 3 ∨ x.f0 = 4 ∨ x.f0 = 5 := by omega
    have hch : ∀ y ∈ x.f4, (textI d y).length ≤ 140737488355000 → Ev (fun k => value_text.f k y.f0 y.f1 y.f2 y.f3 y.f4 y.f5) (textB d y) := fun y hy h => ih y (hse y hy) h
    rcases hcase with h | h | h | h | h | h
    · refine ⟨2, fun k hk => ?_⟩
      obtain ⟨k, rfl⟩ : ∃ m, k = m + 2 := ⟨k - 2, by omega⟩
      simp only [value_text.f]
      rw [if_neg (by omega), if_neg (by omega), if_neg (by omega), if_neg (by omega), h]
      simp only [value_text.j0]
      rw [if_neg (by decide), textB, textI, if_pos h]
      rfl
    · refine ⟨2, fun k hk => ?_⟩
      obtain ⟨k, rfl⟩ : ∃ m, k = m + 2 := ⟨k - 2, by omega⟩
      simp only [value_text.f]
      rw [if_pos h, textB, textI, if_neg (by omega), if_pos h]
      cases x.f1 <;> rfl
    · refine ⟨2, fun k hk => ?_⟩
      obtain ⟨k, rfl⟩ : ∃ m, k = m + 2 := ⟨k - 2, by omega⟩
      simp only [value_text.f]
      rw [if_neg (by omega), if_pos h, textB, textI, if_neg (by omega), if_neg (by omega), if_pos h, qGa, strconv_Itoa.f, if_pos (by omega)]
      rfl
    · obtain ⟨K, hK⟩ := qFm x.f3 (by omega)
      refine ⟨K + 2, fun k hk => ?_⟩
      obtain ⟨k, rfl⟩ : ∃ m, k = m + 1 := ⟨k - 1, by omega⟩
      have hK := hK k (by omega)
      simp only at hK
      simp only [value_text.f]
      rw [if_neg (by omega), if_neg (by omega), if_pos h, hK, textB, textI, if_neg (by omega), if_neg (by omega), if_neg (by omega), if_pos h]
      rfl
    · have ht : textI (d + 1) x = 91 :: (joinC 44 (qAt (textI d) false x.f4 x.f5) ++ [93]) := by
        rw [textI, if_neg (by omega), if_neg (by omega), if_neg (by omega), if_neg (by omega), if_neg (by omega)]
      rw [ht] at hl
      simp only [List.length_cons, List.length_append, List.length_nil] at hl
      obtain ⟨K, hK⟩ := qF8 d x hs' false (by simp [h]) (by omega) hch x.f4.length 0 (by omega) (by omega)
      refine ⟨K + 2, fun k hk => ?_⟩
      obtain ⟨k, rfl⟩ : ∃ m, k = m + 2 := ⟨k - 2, by omega⟩
      have hK := hK k (by omega)
      simp only [value_text.f]
      rw [if_neg (by omega), if_neg (by omega), if_neg (by omega), if_pos h]
      simp only [value_text.j0]
      rw [if_pos (by simp [h]), textB, ht]
      exact hK
    · have ht : textI (d + 1) x = 123 :: (joinC 44 (qAt (textI d) true x.f4 x.f5) ++ [125]) := by
        rw [textI, if_neg (by omega), if_neg (by omega), if_neg (by omega), if_neg (by omega), if_pos h]
      rw [ht] at hl
      simp only [List.length_cons, List.length_append, List.length_nil] at hl
      obtain ⟨K, hK⟩ := qF8 d x hs' true (by simp [h]) (by omega) hch x.f4.length 0 (by omega) (by omega)
      refine ⟨K + 2, fun k hk => ?_⟩
      obtain ⟨k, rfl⟩ : ∃ m, k = m + 2 := ⟨k - 2, by omega⟩
      have hK := hK k (by omega)
      simp only [value_text.f]
      rw [if_neg (by omega), if_neg (by omega), if_neg (by omega), if_neg (by omega)]
      simp only [value_text.j0]
      rw [if_pos (by simp [h]), textB, ht]
      exact hK
end Go.Proofs.YtbnoihpooeombaaDoor.X

namespace Go.Proofs.YtbnoihpooeombaaDoor.X
open Go.RowKit Go.Proofs.YtbnoihpooeombaaDoorW.PrintWords Go.Proofs.YtbnoihpooeombaaDoor.P
set_option linter.unusedVariables false
set_option linter.unusedSimpArgs false
theorem qCj {x : S25} (h : qBc x = true) : 0 ≤ x.f0 ∧ x.f0 ≤ 5 ∧ -9007199254740992 ≤ x.f2 ∧ x.f2 ≤ 9007199254740992 ∧ (x.f0 = 5 → x.f5.length = x.f4.length) ∧ (x.f0 ≠ 1 → x.f1 = false) ∧ (x.f0 ≠ 2 → x.f2 = 0) ∧ (x.f0 ≠ 3 → x.f3.size = 0) ∧ (x.f0 ≠ 4 → x.f0 ≠ 5 → x.f4 = []) ∧ (x.f0 ≠ 5 → x.f5 = []) ∧ qAw x.f5 = true := by
  rw [qC7] at h
  unfold plainB at h
  simp only [Bool.and_eq_true, Bool.or_eq_true, decide_eq_true_eq, beq_iff_eq, bne_iff_ne, Bool.not_eq_true', List.isEmpty_iff] at h
  obtain ⟨⟨⟨⟨⟨h1, h2⟩, h3⟩, h4⟩, h5⟩, h6, h7, h8, h9, h10, h11⟩ := h
  refine ⟨h6, h7, h8, h9, fun e => h10.resolve_left (fun h => h e), fun e => h1.resolve_left e, fun e => h2.resolve_left e, fun e => h3.resolve_left e, fun e e' => (h4.resolve_left (fun h => h.elim e e')), fun e => h5.resolve_left e, h11⟩
theorem qCv {d : Nat} {x : S25} (h : goodV (d + 1) x = true) : qBc x = true ∧ ∀ y ∈ x.f4, goodV d y = true := by
  rw [goodV, Bool.and_eq_true, List.all_eq_true] at h
  exact h
theorem qDu : ∀ (d D n : Nat) (x : S25), T D n x → n ≤ 100000 → goodV d x = true → okV d x
  | 0, D, n, x, _, _, h => by simp [goodV] at h
  | d + 1, 0, n, x, hT, _, _ => hT.1.elim
  | d + 1, D + 1, n, x, hT, hn, h => by
    obtain ⟨h1, h2⟩ := qCv h
    have hf := qCj h1
    have hl := hT.len
    exact ⟨hf.1, hf.2.1, hf.2.2.1, hf.2.2.2.1, by have := hT.1.1; omega, by omega, by omega, fun s hs => by have := hT.1.2.2.1 s hs; omega, hf.2.2.2.2.1, fun y hy => qDu d D n y (hT.child hy) hn (h2 y hy)⟩
theorem qHg (n : Int) (h0 : -9007199254740992 ≤ n) (h1 : n ≤ 9007199254740992) : (qA5 (itoaB n)).length ≤ 21 := by
  rw [qB2, itoaB, qGc]
  exact Lib.itoa_length_le n (by omega) (by omega)
theorem qEk (s : ByteArray) : (quoteL s).length ≤ 6 * s.size + 2 := by
  unfold quoteL
  rw [List.length_cons, List.length_append, List.length_singleton]
  have := qGw (qA5 s)
  rw [qB2] at this
  omega
theorem qEp (c : Int) : ∀ l : List (List Int), (joinC c l).length ≤ (l.map (fun p => p.length + 1)).sum
  | [] => by simp [joinC]
  | [x] => by simp [joinC]
  | x :: y :: l => by
    have := qEp c (y :: l)
    simp only [joinC, List.map_cons, List.sum_cons, List.length_append, List.length_cons] at this ⊢
    omega
theorem qCy (f : S25 → List Int) (m : S25 → Nat) (o : Bool) : ∀ (l : List S25) (ks : List ByteArray), (∀ s ∈ ks, s.size ≤ 100) → (∀ y ∈ l, (f y).length + 604 ≤ 1300 * m y) → ((qAt f o l ks).map (fun p => p.length + 1)).sum ≤ 1300 * (l.map m).sum
  | [], ks, _, _ => by simp [qAt]
  | x :: l, [], hk, hf => by
    have := qCy f m o l [] hk (fun y hy => hf y (List.mem_cons_of_mem _ hy))
    have h2 := hf x (List.mem_cons_self ..)
    simp only [qAt, List.map_cons, List.sum_cons]
    omega
  | x :: l, k :: ks, hk, hf => by
    have := qCy f m o l ks (fun s hs => hk s (List.mem_cons_of_mem _ hs)) (fun y hy => hf y (List.mem_cons_of_mem _ hy))
    have h2 := hf x (List.mem_cons_self ..)
    have h3 := qEk k
    have h4 := hk k (List.mem_cons_self ..)
    simp only [qAt, List.map_cons, List.sum_cons]
    cases o
    · simp only [Bool.false_eq_true, if_false]; omega
    · simp only [if_true, List.length_append, List.length_cons]; omega
theorem qDs : ∀ (d D : Nat) (x : S25), tameD D x → goodV d x = true → (textI d x).length + 604 ≤ 1300 * nodesV d x
  | 0, D, x, _, h => by simp [goodV] at h
  | d + 1, 0, x, ht, _ => ht.elim
  | d + 1, D + 1, x, ht, h => by
    obtain ⟨h1, h2⟩ := qCv h
    have hf := qCj h1
    have hi := qHg x.f2 hf.2.2.1 hf.2.2.2.1
    have hq := qEk x.f3
    have h3 := ht.1
    have hp := fun o => qCy (textI d) (nodesV d) o x.f4 x.f5 ht.2.2.1 (fun y hy => qDs d D y (ht.2.2.2 y hy) (h2 y hy))
    have hj := fun o => qEp 44 (qAt (textI d) o x.f4 x.f5)
    have hp1 := hp true
    have hp2 := hp false
    have hj1 := hj true
    have hj2 := hj false
    rw [nodesV, textI]
    clear hp hj
    split
    · simp; omega
    · split
      · split <;> simp <;> omega
      · split
        · omega
        · split
          · omega
          · split
            · simp only [List.length_cons, List.length_append, List.length_nil]; omega
            · simp only [List.length_cons, List.length_append, List.length_nil]; omega
end Go.Proofs.YtbnoihpooeombaaDoor.X

namespace Go.Proofs.YtbnoihpooeombaaDoor.P
open Go.Proofs.YtbnoihpooeombaaDoor.X
open Go.RowKit Go.Proofs.YtbnoihpooeombaaDoorW.PrintWords Go.Proofs.YtbnoihpooeombaaDoorW.PrintLast Go.Proofs.YtbnoihpooeombaaDoorW.PrintMore
attribute [local go_sem] qAr qAx
set_option linter.unusedVariables false
set_option linter.unusedSimpArgs false
def hogsheadref15_Same.f (k : Nat) (a0_0 : Int) (a0_1 : Bool) (a0_2 : Int) (a0_3 : ByteArray) (l0_4 : List (S25)) (l0_5 : List ByteArray) (a1_0 : Int) (a1_1 : Bool) (a1_2 : Int) (a1_3 : ByteArray) (l1_4 : List (S25)) (l1_5 : List ByteArray) : Option (Bool) := (hogsheadref15_Lay.f k a0_0 a0_1 a0_2 a0_3 l0_4 l0_5).bind fun bt208 => ((hogsheadref15_Lay.f k a1_0 a1_1 a1_2 a1_3 l1_4 l1_5).bind fun bt210 => (if bt208.2 = 0 then (if bt210.2 = 0 then (some (bt208.1.toList == bt210.1.toList)) else (some false)) else (some false)))
end Go.Proofs.YtbnoihpooeombaaDoor.P

namespace Go.Proofs.YtbnoihpooeombaaDoor.X
open Go.RowKit Go.Proofs.YtbnoihpooeombaaDoorW.PrintWords Go.Proofs.YtbnoihpooeombaaDoor.P
set_option linter.unusedVariables false
set_option linter.unusedSimpArgs false
theorem text_1 (d : Nat) (x : S25) (h : x.f0 = 1) : textI (d + 1) x = if x.f1 then [116, 114, 117, 101] else [102, 97, 108, 115, 101] := by rw [textI, if_neg (by omega), if_pos h]
theorem text_2 (d : Nat) (x : S25) (h : x.f0 = 2) : textI (d + 1) x = qA5 (itoaB x.f2) := by rw [textI, if_neg (by omega), if_neg (by omega), if_pos h]
theorem text_5 (d : Nat) (x : S25) (h : x.f0 = 5) : textI (d + 1) x = 123 :: (joinC 44 (qAt (textI d) true x.f4 x.f5) ++ [125]) := by rw [textI, if_neg (by omega), if_neg (by omega), if_neg (by omega), if_neg (by omega), if_pos h]
theorem qHn {D : Nat} {x : S25} (hT : T D 4000 x) (h : goodV 16 x = true) : (textI 16 x).length ≤ 140737488355000 := by
  have h1 := qDs 16 D x hT.1 h
  rw [qDv x h hT.1] at h1
  have := hT.2
  omega
theorem qE1 {D : Nat} {x : S25} (hT : T D 4000 x) : value_May.f x.f0 x.f1 x.f2 x.f3 x.f4 x.f5 = some (goodV 16 x) := congrArg some (qB9 D x hT)
theorem qHw {D : Nat} {x : S25} (hT : T D 4000 x) : Ev (fun k => value_Lay.f k x.f0 x.f1 x.f2 x.f3 x.f4 x.f5) (if goodV 16 x = true then (textB 16 x, 0) else (⟨#[]⟩, 2)) := by
  cases h : goodV 16 x with
  | true =>
    obtain ⟨K, hK⟩ := qHo 16 x (qDu 16 D 4000 x hT (by omega) h) (qHn hT h)
    refine ⟨K, fun k hk => ?_⟩
    have hK := hK k hk
    simp only at hK
    show value_Lay.f k _ _ _ _ _ _ = _
    unfold value_Lay.f
    rw [qE1 hT, h]
    simp only [Option.bind_some]
    rw [if_pos trivial, hK]
    rfl
  | false =>
    refine ⟨0, fun k hk => ?_⟩
    show value_Lay.f k _ _ _ _ _ _ = _
    unfold value_Lay.f
    rw [qE1 hT, h]
    rfl
theorem qDm (f : S25 → S25 → Bool) : ∀ l m, (∀ a ∈ l, ∀ b, f a b = true ↔ a = b) → (allEq f l m = true ↔ l = m)
  | [], [], _ => by simp [allEq]
  | [], _ :: _, _ => by simp [allEq]
  | _ :: _, [], _ => by simp [allEq]
  | x :: l, y :: m, h => by
    rw [allEq, Bool.and_eq_true, h x (List.mem_cons_self ..), qDm f l m (fun a ha => h a (List.mem_cons_of_mem _ ha)), List.cons.injEq]
theorem qEg : ∀ d a b, goodV d a = true → (sameV d a b = true ↔ a = b)
  | 0, a, b, h => by simp [goodV] at h
  | d + 1, a, b, h => by
    have hg := (qCv h).2
    rw [sameV]
    simp only [Bool.and_eq_true, beq_iff_eq, decide_eq_true_eq]
    rw [qDm (sameV d) a.f4 b.f4 (fun x hx y => qEg d x y (hg x hx)), qBl]
    cases a; cases b
    simp only [S25.mk.injEq]
    constructor
    · rintro ⟨h0, h1, h2, h3, h5, h4⟩; exact ⟨h0, h1, h2, h3, h4, h5⟩
    · rintro ⟨h0, h1, h2, h3, h4, h5⟩; exact ⟨h0, h1, h2, h3, h5, h4⟩
def sameB (a b : S25) : Bool := goodV 16 a && (goodV 16 b && sameV 16 a b)
theorem qG8 {D E : Nat} {a b : S25} (ha : T D 4000 a) (hb : T E 4000 b) : value_Same.f a.f0 a.f1 a.f2 a.f3 a.f4 a.f5 b.f0 b.f1 b.f2 b.f3 b.f4 b.f5 = some (sameB a b) := by
  show some ((mayV 16 a 0).2 && ((mayV 16 b 0).2 && sameV 16 a b)) = some _
  rw [qB9 D a ha, qB9 E b hb]
  rfl
end Go.Proofs.YtbnoihpooeombaaDoor.X

namespace Go.Proofs.YtbnoihpooeombaaDoor.P
open Go.Proofs.YtbnoihpooeombaaDoor.X
open Go.RowKit Go.Proofs.YtbnoihpooeombaaDoorW.PrintWords Go.Proofs.YtbnoihpooeombaaDoorW.PrintLast Go.Proofs.YtbnoihpooeombaaDoorW.PrintMore
attribute [local go_sem] qAr qAx
set_option linter.unusedVariables false
set_option linter.unusedSimpArgs false
def cmp_isNaN_string.f (a0 : ByteArray) : Option (Bool) := some (a0.toList != a0.toList)
set_option maxHeartbeats 8000000 in
set_option maxRecDepth 100000 in
theorem cmp_isNaN_string.calls (a0 : ByteArray) (r : Bool) (w : World) (h : cmp_isNaN_string.f a0 = some r) :
  Calls Tryd.prog 98 #[.string a0] w fun e w' => e = .returned (.bool r) ∧ Drawn0 w w' := by
 have H : (some (a0.toList != a0.toList)) = some r := h
 clear h
 obtain rfl := Option.some.inj H
 go_enter Tryd.func98, Tryd.ntmps98
 go_wp2
 go_ret
 exact ⟨by first | rfl | (simp; done) | (simp [*]; done), by repeat (first | exact Drawn0.refl _ | apply Drawn0.step)⟩
end Go.Proofs.YtbnoihpooeombaaDoor.P

namespace Go.Proofs.YtbnoihpooeombaaDoor.P
open Go.Proofs.YtbnoihpooeombaaDoor.X
open Go.RowKit Go.Proofs.YtbnoihpooeombaaDoorW.PrintWords Go.Proofs.YtbnoihpooeombaaDoorW.PrintLast Go.Proofs.YtbnoihpooeombaaDoorW.PrintMore
attribute [local go_sem] qAr qAx
set_option linter.unusedVariables false
set_option linter.unusedSimpArgs false
def cmp_Less_string.f (a0 : ByteArray) (a1 : ByteArray) : Option (Bool) := (cmp_isNaN_string.f a0).bind fun t544 => (if t544 = true then ((cmp_isNaN_string.f a1).bind fun t545 => (if t545 = true then (some (Op.bytesLess a0.toList a1.toList)) else (some true))) else (some (Op.bytesLess a0.toList a1.toList)))
set_option maxHeartbeats 8000000 in
set_option maxRecDepth 100000 in
theorem cmp_Less_string.calls (a0 : ByteArray) (a1 : ByteArray) (r : Bool) (w : World) (h : cmp_Less_string.f a0 a1 = some r) :
  Calls Tryd.prog 70 #[.string a0, .string a1] w fun e w' => e = .returned (.bool r) ∧ Drawn0 w w' := by
 have H : ((cmp_isNaN_string.f a0).bind fun t544 => (if t544 = true then ((cmp_isNaN_string.f a1).bind fun t545 => (if t545 = true then (some (Op.bytesLess a0.toList a1.toList)) else (some true))) else (some (Op.bytesLess a0.toList a1.toList)))) = some r := h
 clear h
 replace H := Option.bind_eq_some_iff.mp H
 obtain ⟨t544, A30, H⟩ := H
 replace H : (if t544 = true then ((cmp_isNaN_string.f a1).bind fun t545 => (if t545 = true then (some (Op.bytesLess a0.toList a1.toList)) else (some true))) else (some (Op.bytesLess a0.toList a1.toList))) = some r := H
 have A3 := Aside0.mk A30
 clear A30
 by_cases c4 : t544 = true
 ·subst c4
  have H1 : ((cmp_isNaN_string.f a1).bind fun t545 => (if t545 = true then (some (Op.bytesLess a0.toList a1.toList)) else (some true))) = some r := by rw [if_pos rfl] at H; exact H
  clear H
  have H := H1
  clear H1
  replace H := Option.bind_eq_some_iff.mp H
  obtain ⟨t545, A50, H⟩ := H
  replace H : (if t545 = true then (some (Op.bytesLess a0.toList a1.toList)) else (some true)) = some r := H
  have A5 := Aside0.mk A50
  clear A50
  by_cases c6 : t545 = true
  ·subst c6
   have H1 : (some (Op.bytesLess a0.toList a1.toList)) = some r := by rw [if_pos rfl] at H; exact H
   clear H
   have H := H1
   clear H1
   obtain rfl := Option.some.inj H
   go_enter Tryd.func70, Tryd.ntmps70
   go_wp2_with (first | ((with_reducible refine qAp (f := 98) rfl ?_); refine goesL_ (some 6) rfl rfl Tryd.func98 (by kernel_rfl) rfl #[.string a0] rfl (by (try simp only [List.map_toArray, List.map_cons, List.map_nil]); first | done | rfl | (simp only [List.length_drop, List.length_take]; rfl)) ?_; (with_reducible refine (cmp_isNaN_string.calls a0 true _ A3.out).mono ?_); rintro e w' ⟨rfl, ⟨nd, rfl⟩⟩; refine ⟨_, rfl, ?_⟩) | (go_at_call 98; (with_reducible refine (cmp_isNaN_string.calls a1 true _ A5.out).mono ?_); rintro e w' ⟨rfl, ⟨nd, rfl⟩⟩))
   go_ret
   exact ⟨by first | rfl | (simp; done) | (simp [*]; done), by repeat (first | exact Drawn0.refl _ | apply Drawn0.step)⟩
  ·replace c6 := Bool.eq_false_iff.mpr c6
   subst c6
   have H1 : (some true) = some r := by rw [if_neg (show ¬ (false = true) by decide)] at H; exact H
   clear H
   have H := H1
   clear H1
   obtain rfl := Option.some.inj H
   go_enter Tryd.func70, Tryd.ntmps70
   go_wp2_with (first | ((with_reducible refine qAp (f := 98) rfl ?_); refine goesL_ (some 6) rfl rfl Tryd.func98 (by kernel_rfl) rfl #[.string a0] rfl (by (try simp only [List.map_toArray, List.map_cons, List.map_nil]); first | done | rfl | (simp only [List.length_drop, List.length_take]; rfl)) ?_; (with_reducible refine (cmp_isNaN_string.calls a0 true _ A3.out).mono ?_); rintro e w' ⟨rfl, ⟨nd, rfl⟩⟩; refine ⟨_, rfl, ?_⟩) | (go_at_call 98; (with_reducible refine (cmp_isNaN_string.calls a1 false _ A5.out).mono ?_); rintro e w' ⟨rfl, ⟨nd, rfl⟩⟩))
   go_ret
   exact ⟨by first | rfl | (simp; done) | (simp [*]; done), by repeat (first | exact Drawn0.refl _ | apply Drawn0.step)⟩
 ·replace c4 := Bool.eq_false_iff.mpr c4
  subst c4
  have H1 : (some (Op.bytesLess a0.toList a1.toList)) = some r := by rw [if_neg (show ¬ (false = true) by decide)] at H; exact H
  clear H
  have H := H1
  clear H1
  obtain rfl := Option.some.inj H
  go_enter Tryd.func70, Tryd.ntmps70
  go_wp2_with (first | ((with_reducible refine qAp (f := 98) rfl ?_); refine goesL_ (some 6) rfl rfl Tryd.func98 (by kernel_rfl) rfl #[.string a0] rfl (by (try simp only [List.map_toArray, List.map_cons, List.map_nil]); first | done | rfl | (simp only [List.length_drop, List.length_take]; rfl)) ?_; (with_reducible refine (cmp_isNaN_string.calls a0 false _ A3.out).mono ?_); rintro e w' ⟨rfl, ⟨nd, rfl⟩⟩; refine ⟨_, rfl, ?_⟩))
  go_ret
  exact ⟨by first | rfl | (simp; done) | (simp [*]; done), by repeat (first | exact Drawn0.refl _ | apply Drawn0.step)⟩
end Go.Proofs.YtbnoihpooeombaaDoor.P

namespace Go.Proofs.YtbnoihpooeombaaDoor.P
open Go.Proofs.YtbnoihpooeombaaDoor.X
open Go.RowKit Go.Proofs.YtbnoihpooeombaaDoorW.PrintWords Go.Proofs.YtbnoihpooeombaaDoorW.PrintLast Go.Proofs.YtbnoihpooeombaaDoorW.PrintMore
attribute [local go_sem] qAr qAx
set_option linter.unusedVariables false
set_option linter.unusedSimpArgs false
def slices_isNaN_string.f (a0 : ByteArray) : Option (Bool) := some (a0.toList != a0.toList)
set_option maxHeartbeats 8000000 in
set_option maxRecDepth 100000 in
theorem slices_isNaN_string.calls (a0 : ByteArray) (r : Bool) (w : World) (h : slices_isNaN_string.f a0 = some r) :
  Calls Tryd.prog 71 #[.string a0] w fun e w' => e = .returned (.bool r) ∧ Drawn0 w w' := by
 have H : (some (a0.toList != a0.toList)) = some r := h
 clear h
 obtain rfl := Option.some.inj H
 go_enter Tryd.func71, Tryd.ntmps71
 go_wp2
 go_ret
 exact ⟨by first | rfl | (simp; done) | (simp [*]; done), by repeat (first | exact Drawn0.refl _ | apply Drawn0.step)⟩
end Go.Proofs.YtbnoihpooeombaaDoor.P

namespace Go.Proofs.YtbnoihpooeombaaDoor.P
open Go.Proofs.YtbnoihpooeombaaDoor.X
open Go.RowKit Go.Proofs.YtbnoihpooeombaaDoorW.PrintWords Go.Proofs.YtbnoihpooeombaaDoorW.PrintLast Go.Proofs.YtbnoihpooeombaaDoorW.PrintMore
attribute [local go_sem] qAr qAx
set_option linter.unusedVariables false
set_option linter.unusedSimpArgs false
def slices_BinarySearch_string_string.l0 : Nat → List ByteArray → ByteArray → Int → Int → Int → Option (Int × Bool)
 | 0, _, _, _, _, _ => none
 | k + 1, x0, x1, x6, x7, x8 => if x7 < x8 then (if 0 ≤ (wrap64 ((IntKind.u64.wrap (wrap64 (x7 + x8))) / 2)) then (if (wrap64 ((IntKind.u64.wrap (wrap64 (x7 + x8))) / 2)) < (x0.length : Int) then ((cmp_Less_string.f (rdOf ByteArray.empty x0 (wrap64 ((IntKind.u64.wrap (wrap64 (x7 + x8))) / 2))) x1).bind fun t547 => (if t547 = true then (slices_BinarySearch_string_string.l0 k x0 x1 x6 (wrap64 ((wrap64 ((IntKind.u64.wrap (wrap64 (x7 + x8))) / 2)) + 1)) x8) else (slices_BinarySearch_string_string.l0 k x0 x1 x6 x7 (wrap64 ((IntKind.u64.wrap (wrap64 (x7 + x8))) / 2))))) else (none)) else (none)) else (if x7 < x6 then (if 0 ≤ x7 then (if x7 < (x0.length : Int) then (if (rdOf ByteArray.empty x0 x7).toList = x1.toList then (some (x7, true)) else ((slices_isNaN_string.f (rdOf ByteArray.empty x0 x7)).bind fun t550 => (if t550 = true then ((slices_isNaN_string.f x1).bind fun t551 => (some (x7, t551))) else (some (x7, false))))) else (none)) else (none)) else (some (x7, false)))
def slices_BinarySearch_string_string.f (k : Nat) (l0 : List ByteArray) (a1 : ByteArray) : Option (Int × Bool) := slices_BinarySearch_string_string.l0 k l0 a1 (l0.length : Int) 0 (l0.length : Int)
theorem slices_BinarySearch_string_string.mono_l : ∀ k, (∀ y0 y1 y2 y3 y4, LeO (slices_BinarySearch_string_string.l0 k y0 y1 y2 y3 y4) (slices_BinarySearch_string_string.l0 (k + 1) y0 y1 y2 y3 y4))
 | 0 => fun _ _ _ _ _ r h => by simp [slices_BinarySearch_string_string.l0] at h
 | k + 1 => by
  have ih0 := slices_BinarySearch_string_string.mono_l k
  ·intro y0 y1 y2 y3 y4
   unfold slices_BinarySearch_string_string.l0
   repeat' first
   | (with_reducible exact ih0 _ _ _ _ _)
   | (with_reducible exact LeO.refl _)
   | (with_reducible exact LeO.none _)
   | (with_reducible refine LeO.ite ?_ ?_)
   | (with_reducible refine LeO.bind ?_ (fun _ => ?_))
   | exact ih0 _ _ _ _ _
   | exact LeO.none _
   | refine LeO.ite ?_ ?_
   | refine LeO.bind ?_ (fun _ => ?_)
theorem slices_BinarySearch_string_string.mono : ∀ a0 a1 k, LeO (slices_BinarySearch_string_string.f k a0 a1) (slices_BinarySearch_string_string.f (k + 1) a0 a1) := by
 intro a0 a1 k
 have ih0 := slices_BinarySearch_string_string.mono_l k
 unfold slices_BinarySearch_string_string.f
 repeat' first
   | (with_reducible exact ih0 _ _ _ _ _)
   | (with_reducible exact LeO.refl _)
   | (with_reducible exact LeO.none _)
   | (with_reducible refine LeO.ite ?_ ?_)
   | (with_reducible refine LeO.bind ?_ (fun _ => ?_))
   | exact ih0 _ _ _ _ _
   | exact LeO.none _
   | refine LeO.ite ?_ ?_
   | refine LeO.bind ?_ (fun _ => ?_)
set_option maxHeartbeats 8000000 in
set_option maxRecDepth 100000 in
theorem slices_BinarySearch_string_string.calls (k : Nat) (A0 : Option Addr) (c0 : Nat) (l0 : List ByteArray) (a1 : ByteArray) (r1 : Int) (r2 : Bool) (w : World) (hr0 : Kd.C Kd.string w A0 l0.length l0) (hc0 : l0.length ≤ c0) (h : slices_BinarySearch_string_string.f k l0 a1 = some (r1, r2)) :
  Calls Tryd.prog 49 #[.slice A0 l0.length c0, .string a1] w fun e w' => e = .returned (.tuple #[.int .i64 r1, .bool r2]) ∧ Drawn0 w w' := by
 have HR0 := Aside0.mk hr0
 have HC0 := Aside0.mk hc0
 clear hr0 hc0
 have H : (slices_BinarySearch_string_string.l0 k l0 a1 (l0.length : Int) 0 (l0.length : Int)) = some (r1, r2) := h
 clear h
 have H' := Aside0.mk H
 clear H
 go_enter Tryd.func49, Tryd.ntmps49
 go_wp2
 go_loopg [7, 8] k (fun kq v7 v8 w' => ∃ (x7_1 : Int) (x8_1 : Int), v7 = .int .i64 x7_1 ∧ v8 = .int .i64 x8_1 ∧ Aside0 (slices_BinarySearch_string_string.l0 kq l0 a1 (l0.length : Int) x7_1 x8_1 = some (r1, r2)) ∧ Aside0 (kq ≤ k) ∧ Drawn0 w w')
 case atStart => exact ⟨(0), ((l0.length : Int)), (by first | rfl | (simp; done) | (simp [*]; done) | exact congrArg Value.bool (nil_ne _) | exact congrArg Value.bool (nil_eq _) | exact congrArg Value.bool (nil_ne' _)), (by first | rfl | (simp; done) | (simp [*]; done) | exact congrArg Value.bool (nil_ne _) | exact congrArg Value.bool (nil_eq _) | exact congrArg Value.bool (nil_ne' _)), H', ⟨Nat.le_refl _⟩, by repeat (first | exact Drawn0.refl _ | apply Drawn0.step)⟩
 case round =>
  clear H'
  try clear p2
  obtain ⟨x7_1, x8_1, rfl, rfl, HA, HK1, ⟨m1, rfl⟩⟩ := hrel
  cases gk with
  | zero => exact absurd HA.out (by simp [slices_BinarySearch_string_string.l0])
  | succ k1 =>
   have H := HA.out
   clear HA
   simp only [slices_BinarySearch_string_string.l0] at H
   by_cases c3 : x7_1 < x8_1
   ·rw [if_pos c3] at H
    have c3b0 : decide (x7_1 < x8_1) = true := decide_eq_true c3
    clear c3
    obtain ⟨ji4, hji4⟩ : ∃ j_ : Int, (wrap64 ((IntKind.u64.wrap (wrap64 (x7_1 + x8_1))) / 2)) = j_ := ⟨_, rfl⟩
    replace H : (if 0 ≤ (ji4) then (if (ji4) < (l0.length : Int) then ((cmp_Less_string.f (rdOf ByteArray.empty l0 (ji4)) a1).bind fun t547 => (if t547 = true then (slices_BinarySearch_string_string.l0 k1 l0 a1 (l0.length : Int) (wrap64 ((ji4) + 1)) x8_1) else (slices_BinarySearch_string_string.l0 k1 l0 a1 (l0.length : Int) x7_1 ji4))) else (none)) else (none)) = some (r1, r2) := by first | (rw [hji4] at H; exact H) | (simp only [hji4] at H ⊢; exact H)
    have hji4w : (IntKind.i64.wrap ((IntKind.u64.wrap (wrap64 (x7_1 + x8_1))) / 2)) = ji4 := (i64_w _).trans hji4
    by_cases c5 : 0 ≤ (ji4)
    ·rw [if_pos c5] at H
     have c5b0 : decide (0 ≤ (ji4)) = true := decide_eq_true c5
     clear c5
     by_cases c6 : (ji4) < (l0.length : Int)
     ·rw [if_pos c6] at H
      have c6b0 : decide ((ji4) < (l0.length : Int)) = true := decide_eq_true c6
      clear c6
      replace H := Option.bind_eq_some_iff.mp H
      obtain ⟨t547, A70, H⟩ := H
      replace H : (if t547 = true then (slices_BinarySearch_string_string.l0 k1 l0 a1 (l0.length : Int) (wrap64 ((ji4) + 1)) x8_1) else (slices_BinarySearch_string_string.l0 k1 l0 a1 (l0.length : Int) x7_1 ji4)) = some (r1, r2) := H
      have A7 := Aside0.mk A70
      clear A70
      by_cases c8 : t547 = true
      ·subst c8
       have H1 : (slices_BinarySearch_string_string.l0 k1 l0 a1 (l0.length : Int) (wrap64 ((ji4) + 1)) x8_1) = some (r1, r2) := by rw [if_pos rfl] at H; exact H
       clear H
       have H := H1
       clear H1
       have H' := Aside0.mk H
       clear H
       have p546 : 0 ≤ ((ji4) : Int) := of_decide_eq_true (by first | (with_reducible assumption) | assumption)
       have q546 : (ji4) < (l0.length : Int) := of_decide_eq_true (by first | (with_reducible assumption) | assumption)
       obtain ⟨ad546, e546, hx546_0⟩ := Kd.at_string HR0.out (ji4) p546 q546
       cases e546
       replace p546 := eq_true p546
       replace q546 := eq_true q546
       go_wp2_with (first | ((with_reducible refine qAp (f := 70) rfl ?_); refine goesL_ (some 27) rfl rfl Tryd.func70 (by kernel_rfl) rfl #[.string (rdOf ByteArray.empty l0 (ji4)), .string a1] rfl (by (try simp only [List.map_toArray, List.map_cons, List.map_nil]); first | done | (simp only [hji4]; rfl) | rfl | (simp only [List.length_drop, List.length_take]; rfl)) ?_; (with_reducible refine (cmp_Less_string.calls (rdOf ByteArray.empty l0 (ji4)) a1 true _ A7.out).mono ?_); rintro e w' ⟨rfl, ⟨nd, rfl⟩⟩; refine ⟨_, rfl, ?_⟩))
       go_roundg k1
       case measure => have := HK1.out; omega
       case rel => exact ⟨(wrap64 ((ji4) + 1)), (x8_1), (by first | rfl | (simp; done) | (simp only [← hji4] <;> (first | rfl | simp)) | (simp [*]; done)), (by first | rfl | (simp; done) | (simp [*]; done) | exact congrArg Value.bool (nil_ne _) | exact congrArg Value.bool (nil_eq _) | exact congrArg Value.bool (nil_ne' _)), H', ⟨by have := HK1.out; omega⟩, by repeat (first | exact Drawn0.refl _ | apply Drawn0.step)⟩
      ·replace c8 := Bool.eq_false_iff.mpr c8
       subst c8
       have H1 : (slices_BinarySearch_string_string.l0 k1 l0 a1 (l0.length : Int) x7_1 ji4) = some (r1, r2) := by rw [if_neg (show ¬ (false = true) by decide)] at H; exact H
       clear H
       have H := H1
       clear H1
       have H' := Aside0.mk H
       clear H
       have p546 : 0 ≤ ((ji4) : Int) := of_decide_eq_true (by first | (with_reducible assumption) | assumption)
       have q546 : (ji4) < (l0.length : Int) := of_decide_eq_true (by first | (with_reducible assumption) | assumption)
       obtain ⟨ad546, e546, hx546_0⟩ := Kd.at_string HR0.out (ji4) p546 q546
       cases e546
       replace p546 := eq_true p546
       replace q546 := eq_true q546
       go_wp2_with (first | ((with_reducible refine qAp (f := 70) rfl ?_); refine goesL_ (some 27) rfl rfl Tryd.func70 (by kernel_rfl) rfl #[.string (rdOf ByteArray.empty l0 (ji4)), .string a1] rfl (by (try simp only [List.map_toArray, List.map_cons, List.map_nil]); first | done | (simp only [hji4]; rfl) | rfl | (simp only [List.length_drop, List.length_take]; rfl)) ?_; (with_reducible refine (cmp_Less_string.calls (rdOf ByteArray.empty l0 (ji4)) a1 false _ A7.out).mono ?_); rintro e w' ⟨rfl, ⟨nd, rfl⟩⟩; refine ⟨_, rfl, ?_⟩))
       go_roundg k1
       case measure => have := HK1.out; omega
       case rel => exact ⟨(x7_1), (ji4), (by first | rfl | (simp; done) | (simp [*]; done) | exact congrArg Value.bool (nil_ne _) | exact congrArg Value.bool (nil_eq _) | exact congrArg Value.bool (nil_ne' _)), (by first | rfl | (simp; done) | (simp only [← hji4] <;> (first | rfl | simp)) | (simp [*]; done)), H', ⟨by have := HK1.out; omega⟩, by repeat (first | exact Drawn0.refl _ | apply Drawn0.step)⟩
     ·rw [if_neg c6] at H
      exact absurd H (by simp)
    ·rw [if_neg c5] at H
     exact absurd H (by simp)
   ·rw [if_neg c3] at H
    have c3b0 : decide (x7_1 < x8_1) = false := decide_eq_false c3
    clear c3
    by_cases c9 : x7_1 < (l0.length : Int)
    ·rw [if_pos c9] at H
     have c9b0 : decide (x7_1 < (l0.length : Int)) = true := decide_eq_true c9
     clear c9
     by_cases c10 : 0 ≤ x7_1
     ·rw [if_pos c10] at H
      have c10b0 : decide (0 ≤ x7_1) = true := decide_eq_true c10
      clear c10
      by_cases c11 : x7_1 < (l0.length : Int)
      ·rw [if_pos c11] at H
       have c11b0 : decide (x7_1 < (l0.length : Int)) = true := decide_eq_true c11
       clear c11
       by_cases c12 : (rdOf ByteArray.empty l0 x7_1).toList = a1.toList
       ·rw [if_pos c12] at H
        have c12b0 : ((rdOf ByteArray.empty l0 x7_1).toList == a1.toList) = true := beq_iff_eq.mpr c12
        have c12b1 : ((rdOf ByteArray.empty l0 x7_1).toList != a1.toList) = false := bne_eq_false_iff_eq.mpr c12
        clear c12
        simp only [Option.some.injEq, Prod.mk.injEq] at H
        obtain ⟨rfl, rfl⟩ := H
        have p548 : 0 ≤ (x7_1 : Int) := of_decide_eq_true (by first | (with_reducible assumption) | assumption)
        have q548 : x7_1 < (l0.length : Int) := of_decide_eq_true (by first | (with_reducible assumption) | assumption)
        obtain ⟨ad548, e548, hx548_0⟩ := Kd.at_string HR0.out x7_1 p548 q548
        cases e548
        replace p548 := eq_true p548
        replace q548 := eq_true q548
        go_wp2
        go_ret2
        exact ⟨by first | rfl | (simp; done) | (simp [*]; done), by repeat (first | exact Drawn0.refl _ | apply Drawn0.step)⟩
       ·rw [if_neg c12] at H
        have c12b0 : ((rdOf ByteArray.empty l0 x7_1).toList == a1.toList) = false := beq_eq_false_iff_ne.mpr c12
        have c12b1 : ((rdOf ByteArray.empty l0 x7_1).toList != a1.toList) = true := bne_iff_ne.mpr c12
        replace H := Option.bind_eq_some_iff.mp H
        obtain ⟨t550, A130, H⟩ := H
        replace H : (if t550 = true then ((slices_isNaN_string.f a1).bind fun t551 => (some (x7_1, t551))) else (some (x7_1, false))) = some (r1, r2) := H
        have A13 := Aside0.mk A130
        clear A130
        by_cases c14 : t550 = true
        ·subst c14
         have H1 : ((slices_isNaN_string.f a1).bind fun t551 => (some (x7_1, t551))) = some (r1, r2) := by rw [if_pos rfl] at H; exact H
         clear H
         have H := H1
         clear H1
         replace H := Option.bind_eq_some_iff.mp H
         obtain ⟨t551, A150, H⟩ := H
         replace H : (some (x7_1, t551)) = some (r1, r2) := H
         have A15 := Aside0.mk A150
         clear A150
         simp only [Option.some.injEq, Prod.mk.injEq] at H
         obtain ⟨rfl, rfl⟩ := H
         have p548 : 0 ≤ (x7_1 : Int) := of_decide_eq_true (by first | (with_reducible assumption) | assumption)
         have q548 : x7_1 < (l0.length : Int) := of_decide_eq_true (by first | (with_reducible assumption) | assumption)
         obtain ⟨ad548, e548, hx548_0⟩ := Kd.at_string HR0.out x7_1 p548 q548
         cases e548
         replace p548 := eq_true p548
         replace q548 := eq_true q548
         have p549 : 0 ≤ (x7_1 : Int) := of_decide_eq_true (by first | (with_reducible assumption) | assumption)
         have q549 : x7_1 < (l0.length : Int) := of_decide_eq_true (by first | (with_reducible assumption) | assumption)
         obtain ⟨ad549, e549, hx549_0⟩ := Kd.at_string HR0.out x7_1 p549 q549
         obtain rfl : ad548 = ad549 := (by injection e549)
         replace p549 := eq_true p549
         replace q549 := eq_true q549
         go_wp2_with (first | (go_at_call 71; (with_reducible refine (slices_isNaN_string.calls (rdOf ByteArray.empty l0 x7_1) true _ A13.out).mono ?_); rintro e w' ⟨rfl, ⟨nd, rfl⟩⟩) | (go_at_call 71; (with_reducible refine (slices_isNaN_string.calls a1 t551 _ A15.out).mono ?_); rintro e w' ⟨rfl, ⟨nd, rfl⟩⟩))
         go_ret2
         exact ⟨by first | rfl | (simp; done) | (simp [*]; done), by repeat (first | exact Drawn0.refl _ | apply Drawn0.step)⟩
        ·replace c14 := Bool.eq_false_iff.mpr c14
         subst c14
         have H1 : (some (x7_1, false)) = some (r1, r2) := by rw [if_neg (show ¬ (false = true) by decide)] at H; exact H
         clear H
         have H := H1
         clear H1
         simp only [Option.some.injEq, Prod.mk.injEq] at H
         obtain ⟨rfl, rfl⟩ := H
         have p548 : 0 ≤ (x7_1 : Int) := of_decide_eq_true (by first | (with_reducible assumption) | assumption)
         have q548 : x7_1 < (l0.length : Int) := of_decide_eq_true (by first | (with_reducible assumption) | assumption)
         obtain ⟨ad548, e548, hx548_0⟩ := Kd.at_string HR0.out x7_1 p548 q548
         cases e548
         replace p548 := eq_true p548
         replace q548 := eq_true q548
         have p549 : 0 ≤ (x7_1 : Int) := of_decide_eq_true (by first | (with_reducible assumption) | assumption)
         have q549 : x7_1 < (l0.length : Int) := of_decide_eq_true (by first | (with_reducible assumption) | assumption)
         obtain ⟨ad549, e549, hx549_0⟩ := Kd.at_string HR0.out x7_1 p549 q549
         obtain rfl : ad548 = ad549 := (by injection e549)
         replace p549 := eq_true p549
         replace q549 := eq_true q549
         go_wp2_with (first | (go_at_call 71; (with_reducible refine (slices_isNaN_string.calls (rdOf ByteArray.empty l0 x7_1) false _ A13.out).mono ?_); rintro e w' ⟨rfl, ⟨nd, rfl⟩⟩))
         go_ret2
         exact ⟨by first | rfl | (simp; done) | (simp [*]; done), by repeat (first | exact Drawn0.refl _ | apply Drawn0.step)⟩
      ·rw [if_neg c11] at H
       exact absurd H (by simp)
     ·rw [if_neg c10] at H
      exact absurd H (by simp)
    ·rw [if_neg c9] at H
     have c9b0 : decide (x7_1 < (l0.length : Int)) = false := decide_eq_false c9
     clear c9
     simp only [Option.some.injEq, Prod.mk.injEq] at H
     obtain ⟨rfl, rfl⟩ := H
     go_wp2
     go_ret2
     exact ⟨by first | rfl | (simp; done) | (simp [*]; done), by repeat (first | exact Drawn0.refl _ | apply Drawn0.step)⟩
end Go.Proofs.YtbnoihpooeombaaDoor.P

namespace Go.Proofs.YtbnoihpooeombaaDoor.X
open Go.RowKit Go.Proofs.YtbnoihpooeombaaDoorW.PrintWords Go.Proofs.YtbnoihpooeombaaDoor.P
set_option linter.unusedVariables false
set_option linter.unusedSimpArgs false
theorem qEs : ∀ a : List UInt8, Op.bytesLess a a = false
  | [] => rfl
  | x :: a => by rw [Op.bytesLess]; simp [qEs a]
theorem qFv : ∀ a b c : List UInt8, Op.bytesLess a b = true → Op.bytesLess b c = true → Op.bytesLess a c = true
  | _, [], _, h, _ => by cases a : ‹List UInt8› <;> simp [Op.bytesLess] at h
  | _, _ :: _, [], _, h => by simp [Op.bytesLess] at h
  | [], _ :: _, _ :: _, _, _ => rfl
  | x :: a, y :: b, z :: c, h, k => by
    rw [Op.bytesLess] at h k ⊢
    simp only [Bool.or_eq_true, Bool.and_eq_true, decide_eq_true_eq, beq_iff_eq] at h k ⊢
    rcases h with h | ⟨h1, h2⟩
    · rcases k with k | ⟨k1, k2⟩
      · exact .inl (UInt8.lt_trans h k)
      · exact .inl (k1 ▸ h)
    · rcases k with k | ⟨k1, k2⟩
      · exact .inl (h1 ▸ k)
      · exact .inr ⟨h1.trans k1, qFv a b c h2 k2⟩
theorem qFw : ∀ a b : List UInt8, Op.bytesLess a b = false → Op.bytesLess b a = false → a = b
  | [], [], _, _ => rfl
  | [], _ :: _, h, _ => by simp [Op.bytesLess] at h
  | _ :: _, [], _, h => by simp [Op.bytesLess] at h
  | x :: a, y :: b, h, k => by
    rw [Op.bytesLess] at h k
    simp only [Bool.or_eq_false_iff, Bool.and_eq_false_iff, decide_eq_false_iff_not, beq_eq_false_iff_ne] at h k
    have hxy : x = y := by
      rcases UInt8.lt_or_lt_of_ne (a := x) (b := y) with h1
      exact Classical.byContradiction fun e => (h1 e).elim h.1 k.1
    subst hxy
    rw [qFw a b (h.2.resolve_left (fun e => e rfl)) (k.2.resolve_left (fun e => e rfl))]
def lessB (a b : ByteArray) : Bool := Op.bytesLess a.toList b.toList
theorem qE3 (a : ByteArray) : lessB a a = false := qEs _
theorem qC2 {a b c : ByteArray} (h : lessB a b = true) (k : lessB b c = true) : lessB a c = true := qFv _ _ _ h k
theorem qF2 {a b : ByteArray} (h : lessB a b = false) (k : lessB b a = false) : a = b := (qBl a b).1 (qFw _ _ h k)
theorem qCh {a : ByteArray} {l : List ByteArray} (h : qAw (a :: l) = true) : qAw l = true ∧ ∀ s ∈ l, lessB a s = true := by
  induction l generalizing a with
  | nil => exact ⟨rfl, fun s hs => by cases hs⟩
  | cons b l ih =>
    rw [qAw, Bool.and_eq_true] at h
    obtain ⟨h1, h2⟩ := h
    refine ⟨h2, fun s hs => ?_⟩
    rcases List.mem_cons.1 hs with rfl | hs
    · exact h1
    · exact qC2 h1 ((ih h2).2 s hs)
theorem qEi {a : ByteArray} {l : List ByteArray} (h : qAw l = true) (ha : ∀ s ∈ l, lessB a s = true) : qAw (a :: l) = true := by
  cases l with
  | nil => rfl
  | cons b l => rw [qAw, Bool.and_eq_true]; exact ⟨ha b (List.mem_cons_self ..), h⟩
def posK (K : List ByteArray) (key : ByteArray) : Nat := (K.takeWhile (fun s => lessB s key)).length
theorem qDb (K : List ByteArray) (key : ByteArray) : posK K key ≤ K.length := by
  unfold posK
  exact (List.takeWhile_prefix _).length_le
theorem qCs : ∀ (K : List ByteArray) (key : ByteArray), qAw K = true → ∀ (i : Nat) (h : i < K.length), lessB K[i] key = true ↔ i < posK K key
  | [], key, _, i, h => by simp at h
  | a :: K, key, hr, i, h => by
    obtain ⟨h1, h2⟩ := qCh hr
    unfold posK
    by_cases c : lessB a key = true
    · rw [List.takeWhile_cons_of_pos (p := fun s => lessB s key) c, List.length_cons]
      cases i with
      | zero => exact ⟨fun _ => by omega, fun _ => c⟩
      | succ i =>
        have := qCs K key h1 i (by simpa using h)
        unfold posK at this
        rw [List.getElem_cons_succ, this]
        omega
    · rw [List.takeWhile_cons_of_neg (p := fun s => lessB s key) c]
      cases i with
      | zero => exact ⟨fun h => absurd h c, fun h => by simp at h⟩
      | succ i =>
        rw [List.getElem_cons_succ]
        refine ⟨fun h' => absurd (qC2 (h2 _ (List.getElem_mem _)) h') c, fun h => by simp at h⟩
def isK (K : List ByteArray) (key : ByteArray) : Bool := decide (∃ h : posK K key < K.length, K[posK K key] = key)
theorem qDh (K : List ByteArray) (key : ByteArray) (hr : qAw K = true) : isK K key = true ↔ key ∈ K := by
  unfold isK
  rw [decide_eq_true_eq]
  constructor
  · rintro ⟨h, e⟩
    exact e ▸ List.getElem_mem h
  · intro h
    obtain ⟨i, hi, e⟩ := List.mem_iff_getElem.1 h
    have h1 := qCs K key hr i hi
    rw [e, qE3] at h1
    have h2 : ¬ i < posK K key := fun h => by simpa using h1.2 h
    have hp : posK K key = i := by
      rcases Nat.lt_or_ge (posK K key) i with h3 | h3
      · exfalso
        have h4 := qCs K key hr (posK K key) (by omega)
        have h5 : lessB K[posK K key] key = false := by
          cases e : lessB (K[posK K key]'(by omega)) key with
          | false => rfl
          | true => exact absurd (h4.1 e) (by omega)
        have h6 : lessB (K[posK K key]'(by omega)) K[i] = true := by
          have : ∀ (K : List ByteArray), qAw K = true → ∀ (p q : Nat) (hq : q < K.length) (hpq : p < q), lessB (K[p]'(by omega)) K[q] = true := by
            intro K
            induction K with
            | nil => intro _ p q hq; simp at hq
            | cons a K ih =>
              intro hr p q hq hpq
              obtain ⟨h1, h2⟩ := qCh hr
              cases q with
              | zero => omega
              | succ q =>
                cases p with
                | zero => exact h2 _ (List.getElem_mem _)
                | succ p => exact ih h1 p q (by simpa using hq) (by omega)
          exact this K hr _ _ hi h3
        rw [e, h5] at h6
        cases h6
      · omega
    exact ⟨by omega, by simp only [hp]; exact e⟩
theorem qGe (K : List ByteArray) (key : ByteArray) (hr : qAw K = true) (hn : K.length ≤ 1000000) : ∀ (d lo hi : Nat), hi - lo ≤ d → lo ≤ posK K key → posK K key ≤ hi → hi ≤ K.length →
    Ev (fun k => slices_BinarySearch_string_string.l0 k K key (K.length : Int) (lo : Int) (hi : Int)) ((posK K key : Int), isK K key) := by
  intro d
  induction d with
  | zero =>
    intro lo hi hd h1 h2 h3
    obtain rfl : lo = hi := by omega
    have hp : posK K key = lo := by omega
    refine ⟨1, fun k hk => ?_⟩
    obtain ⟨k, rfl⟩ : ∃ m, k = m + 1 := ⟨k - 1, by omega⟩
    simp only [slices_BinarySearch_string_string.l0]
    rw [if_neg (by omega)]
    unfold isK
    by_cases c : lo < K.length
    · rw [if_pos (by omega), if_pos (by omega), if_pos (by omega), qAz K lo c]
      by_cases e : K[lo] = key
      · rw [if_pos ((qBl _ _).2 e), hp, decide_eq_true ⟨c, e⟩]
      · rw [if_neg (fun h => e ((qBl _ _).1 h)), hp, decide_eq_false (fun ⟨_, h⟩ => e h)]
        simp [slices_isNaN_string.f]
    · rw [if_neg (by omega), hp, decide_eq_false (fun ⟨h, _⟩ => c (by omega))]
  | succ d ih =>
    intro lo hi hd h1 h2 h3
    by_cases c : lo < hi
    · obtain ⟨m, hm⟩ : ∃ m : Nat, m = (lo + hi) / 2 := ⟨_, rfl⟩
      have hm1 : lo ≤ m := by omega
      have hm2 : m < hi := by omega
      have E1 : Aside0 (wrap64 ((IntKind.u64.wrap (wrap64 ((lo : Int) + (hi : Int)))) / 2) = (m : Int)) := ⟨by
        have e1 : wrap64 ((lo : Int) + (hi : Int)) = ((lo + hi : Nat) : Int) := qBb (by omega) (by omega)
        rw [e1]
        have e2 : IntKind.u64.wrap ((lo + hi : Nat) : Int) = ((lo + hi : Nat) : Int) := by
          clear e1
          simp [IntKind.wrap, IntKind.bits, IntKind.signed]
          omega
        rw [e2]
        clear e1 e2
        exact qBb (by omega) (by omega)⟩
      have E2 : Aside0 (wrap64 ((m : Int) + 1) = ((m + 1 : Nat) : Int)) := ⟨qBb (by omega) (by omega)⟩
      have hlt : m < K.length := by omega
      have hcmp := qCs K key hr m hlt
      have hless : cmp_Less_string.f K[m] key = some (lessB K[m] key) := by
        unfold cmp_Less_string.f cmp_isNaN_string.f
        simp [lessB]
      cases hb : lessB K[m] key with
      | true =>
        obtain ⟨K1, hK⟩ := ih (m + 1) hi (by omega) (by have := hcmp.1 hb; omega) h2 h3
        refine ⟨K1 + 1, fun k hk => ?_⟩
        obtain ⟨k, rfl⟩ : ∃ m, k = m + 1 := ⟨k - 1, by omega⟩
        have hK := hK k (by omega)
        simp only at hK
        simp only [slices_BinarySearch_string_string.l0]
        rw [if_pos (by omega), E1.out, if_pos (by omega), if_pos (by omega), qAz K m hlt, hless, hb]
        simp only [Option.bind_some]
        rw [if_pos trivial, E2.out]
        exact hK
      | false =>
        have hnp : ¬ m < posK K key := fun h => by have := hcmp.2 h; rw [hb] at this; cases this
        obtain ⟨K1, hK⟩ := ih lo m (by omega) h1 (by omega) (by omega)
        refine ⟨K1 + 1, fun k hk => ?_⟩
        obtain ⟨k, rfl⟩ : ∃ m, k = m + 1 := ⟨k - 1, by omega⟩
        have hK := hK k (by omega)
        simp only at hK
        simp only [slices_BinarySearch_string_string.l0]
        rw [if_pos (by omega), E1.out, if_pos (by omega), if_pos (by omega), qAz K m hlt, hless, hb]
        simp only [Option.bind_some]
        rw [if_neg (by decide)]
        exact hK
    · exact ih lo hi (by omega) h1 h2 h3
theorem qEe (K : List ByteArray) (key : ByteArray) (hr : qAw K = true) (hn : K.length ≤ 1000000) : Ev (fun k => slices_BinarySearch_string_string.f k K key) ((posK K key : Int), isK K key) :=
  qGe K key hr hn K.length 0 K.length (by omega) (by omega) (qDb K key) (by omega)
end Go.Proofs.YtbnoihpooeombaaDoor.X

namespace Go.Proofs.YtbnoihpooeombaaDoor.X
open Go.RowKit Go.Proofs.YtbnoihpooeombaaDoorW.PrintWords Go.Proofs.YtbnoihpooeombaaDoorW.PrintLast Go.Proofs.YtbnoihpooeombaaDoorW.PrintMore Go.Proofs.YtbnoihpooeombaaDoor.P
set_option linter.unusedVariables false
set_option linter.unusedSimpArgs false
def value_Get.f (k : Nat) (a0_0 : Int) (a0_1 : Bool) (a0_2 : Int) (a0_3 : ByteArray) (l0_4 : List S25) (l0_5 : List ByteArray) (a1 : ByteArray) : Option (Int × Bool × Int × ByteArray × List S25 × List ByteArray × Bool) :=
  if a0_0 = 5 then
    if (mayV 16 ⟨a0_0, a0_1, a0_2, a0_3, l0_4, l0_5⟩ 0).2 = true then
      (slices_BinarySearch_string_string.f k l0_5 a1).bind fun q => if q.2 = true then (if 0 ≤ q.1 ∧ q.1 < (l0_4.length : Int) then some ((rd_T25 l0_4 q.1).f0, (rd_T25 l0_4 q.1).f1, (rd_T25 l0_4 q.1).f2, (rd_T25 l0_4 q.1).f3, (rd_T25 l0_4 q.1).f4, (rd_T25 l0_4 q.1).f5, true) else none) else some (0, false, 0, ByteArray.empty, [], [], false)
    else some (0, false, 0, ByteArray.empty, [], [], false)
  else some (0, false, 0, ByteArray.empty, [], [], false)
theorem value_Get.mono : ∀ a0 a1 a2 a3 a4 a5 a6 k, LeO (value_Get.f k a0 a1 a2 a3 a4 a5 a6) (value_Get.f (k + 1) a0 a1 a2 a3 a4 a5 a6) := by
  intro a0 a1 a2 a3 a4 a5 a6 k
  unfold value_Get.f
  refine LeO.ite (LeO.ite (LeO.bind (slices_BinarySearch_string_string.mono _ _ _) (fun _ => LeO.refl _)) (LeO.refl _)) (LeO.refl _)
set_option maxHeartbeats 1600000 in
set_option maxRecDepth 100000 in
theorem value_Get.calls (k : Nat) (a0_0 : Int) (a0_1 : Bool) (a0_2 : Int) (a0_3 : ByteArray) (A0_4 : Option Addr) (c0_4 : Nat) (l0_4 : List S25) (A0_5 : Option Addr) (c0_5 : Nat) (l0_5 : List ByteArray) (a1 : ByteArray) (r1 : Int) (r2 : Bool) (r3 : Int) (r4 : ByteArray) (r5 : List S25) (r6 : List ByteArray) (r7 : Bool) (w : World)
    (hr0_4 : Kd.C k25 w A0_4 l0_4.length l0_4) (hc0_4 : l0_4.length ≤ c0_4) (hr0_5 : Kd.C Kd.string w A0_5 l0_5.length l0_5) (hc0_5 : l0_5.length ≤ c0_5)
    (h : value_Get.f k a0_0 a0_1 a0_2 a0_3 l0_4 l0_5 a1 = some (r1, r2, r3, r4, r5, r6, r7)) :
    Calls Tryd.prog 18 #[.agg #[.int .i64 a0_0, .bool a0_1, .int .i64 a0_2, .string a0_3, .slice A0_4 l0_4.length c0_4, .slice A0_5 l0_5.length c0_5], .string a1] w fun e w' =>
      ∃ v4 v5 : Value, e = .returned (.tuple #[.agg #[.int .i64 r1, .bool r2, .int .i64 r3, .string r4, v4, v5], .bool r7]) ∧ k25.R 25 w' w.heap.size (fun k_ => some k_ ≠ (v5 : Value).ownBlock) v4 r5 ∧ Kd.string.R 9 w' w.heap.size (fun _ => True) v5 r6 ∧ Below w.heap.size w w' := by
  have X4 := Aside0.mk hr0_4
  have X5 := Aside0.mk hr0_5
  have HB := Aside0.mk (Below.refl w.heap.size w)
  clear hr0_4 hr0_5
  have HB0 := Aside0.mk (qAd (qAd (Below.refl w.heap.size w) (.cells #[.int .i64 a0_0, .bool a0_1, .int .i64 a0_2, .string a0_3, .slice A0_4 l0_4.length c0_4, .slice A0_5 l0_5.length c0_5] 25)) (.cells #[.int .i64 0, .bool false, .int .i64 0, .string ⟨#[]⟩, .slice none 0 0, .slice none 0 0] 25))
  have HT := Aside0.mk (qCn w #[.int .i64 a0_0, .bool a0_1, .int .i64 a0_2, .string a0_3, .slice A0_4 l0_4.length c0_4, .slice A0_5 l0_5.length c0_5] #[.int .i64 0, .bool false, .int .i64 0, .string ⟨#[]⟩, .slice none 0 0, .slice none 0 0] 25 25)
  by_cases h5 : a0_0 = 5
  · subst h5
    rw [value_Get.f, if_pos rfl] at h
    have HSM := Aside0.mk (qBz 16 ⟨5, a0_1, a0_2, a0_3, l0_4, l0_5⟩ 0 (by omega))
    have hm1 : value_May.f 5 a0_1 a0_2 a0_3 l0_4 l0_5 = some (mayV 16 ⟨5, a0_1, a0_2, a0_3, l0_4, l0_5⟩ 0).2 := rfl
    generalize (mayV 16 ⟨5, a0_1, a0_2, a0_3, l0_4, l0_5⟩ 0).2 = b1 at *
    have M1 := Aside0.mk hm1
    clear hm1
    have H := Aside0.mk h
    clear h
    go_enter Tryd.func18, Tryd.ntmps18
    go_wp2_with fail
    generalize (w.alloc (.cells #[.int .i64 5, .bool a0_1, .int .i64 a0_2, .string a0_3, .slice A0_4 l0_4.length c0_4, .slice A0_5 l0_5.length c0_5] 25)).alloc (.cells #[.int .i64 0, .bool false, .int .i64 0, .string ⟨#[]⟩, .slice none 0 0, .slice none 0 0] 25) = W0 at *
    have HX := Aside0.mk HT.out.1
    have HY := Aside0.mk HT.out.2
    clear HT
    obtain ⟨x0, x1, x2, x3, x4, x5⟩ := qAq HX.out
    go_wp2_with fail
    refine (value_May.calls 5 a0_1 a0_2 a0_3 _ _ l0_4 _ _ l0_5 b1 _ (Kd.C_below X4.out HB0.out) hc0_4 (Kd.C_below X5.out HB0.out) hc0_5 M1.out).mono ?_
    rintro e w2 ⟨rfl, hb2⟩
    have HB2 := Aside0.mk (qAj HB0.out hb2)
    have HX2 := Aside0.mk (qAm HX.out hb2)
    have HY2 := Aside0.mk (qAm HY.out hb2)
    clear hb2 HX HY HB0 M1 x0 x1 x2 x3 x4 x5
    obtain ⟨x0, x1, x2, x3, x4, x5⟩ := qAq HX2.out
    obtain ⟨p0, p1, p2, p3, p4, p5⟩ := qAq HY2.out
    have pf := fun k => qAa HY2.out k
    cases b1 with
    | false =>
      have h := H.out
      simp only [Bool.false_eq_true, if_false, reduceIte] at h
      cases h
      go_wp2_with fail
      have HF := Aside0.mk (qB6 (.int .i64 0) (.bool false) (.int .i64 0) (.string ⟨#[]⟩) (.slice none 0 0) (.slice none 0 0) HY2.out)
      have HFB := Aside0.mk (qBf (g := w.heap.size + 1) (.int .i64 0) (.bool false) (.int .i64 0) (.string ⟨#[]⟩) (.slice none 0 0) (.slice none 0 0) HB2.out (by omega) 0)
      simp only [Nat.zero_add] at HFB
      clear p0 p1 p2 p3 p4 p5 pf
      generalize (((((w2.setCell { block := w.heap.size + 1, off := 0 } (Value.int IntKind.i64 0)).setCell { block := w.heap.size + 1, off := 1 } (Value.bool false)).setCell { block := w.heap.size + 1, off := 2 } (Value.int IntKind.i64 0)).setCell { block := w.heap.size + 1, off := 3 } (Value.string ⟨#[]⟩)).setCell { block := w.heap.size + 1, off := 4 } (Value.slice none 0 0)).setCell { block := w.heap.size + 1, off := 5 } (Value.slice none 0 0) = WF at *
      obtain ⟨r0, r1, r2, r3, r4, r5⟩ := qAq HF.out
      refine bodyPost_ret (v := .tuple #[.agg #[.int .i64 0, .bool false, .int .i64 0, .string ⟨#[]⟩, .slice none 0 0, .slice none 0 0], .bool false]) (by simp [results, Tryd.results18, go_sem, r0, r1, r2, r3, r4, r5]) rfl ⟨_, _, rfl, Kd.R_nil _ _ _ _ _, Kd.R_nil _ _ _ _ _, HFB.out⟩
    | true =>
      have hsm := HSM.out rfl
      have HSE := Aside0.mk hsm.2.2
      clear hsm HSM
      have h := H.out
      clear H
      simp only [if_true, reduceIte] at h
      obtain ⟨q, hq, h⟩ := Option.bind_eq_some_iff.1 h
      obtain ⟨q1, q2⟩ := q
      have HQ := Aside0.mk hq
      clear hq
      go_wp2_with fail
      refine (slices_BinarySearch_string_string.calls k _ _ l0_5 a1 q1 q2 _ (Kd.C_below X5.out HB2.out) hc0_5 HQ.out).mono ?_
      rintro e w3 ⟨rfl, hd3⟩
      have hb3 := hd3.below
      have HB3 := Aside0.mk (qAj HB2.out hb3)
      have HX3 := Aside0.mk (qAm HX2.out hb3)
      have HY3 := Aside0.mk (qAm HY2.out hb3)
      clear hb3 hd3 HX2 HY2 HB2 HQ x0 x1 x2 x3 x4 x5 p0 p1 p2 p3 p4 p5 pf
      obtain ⟨x0, x1, x2, x3, x4, x5⟩ := qAq HX3.out
      obtain ⟨p0, p1, p2, p3, p4, p5⟩ := qAq HY3.out
      have pf := fun k => qAa HY3.out k
      cases q2 with
      | false =>
        simp only [Bool.false_eq_true, if_false, reduceIte] at h
        cases h
        go_wp2_with fail
        have HF := Aside0.mk (qB6 (.int .i64 0) (.bool false) (.int .i64 0) (.string ⟨#[]⟩) (.slice none 0 0) (.slice none 0 0) HY3.out)
        have HFB := Aside0.mk (qBf (g := w.heap.size + 1) (.int .i64 0) (.bool false) (.int .i64 0) (.string ⟨#[]⟩) (.slice none 0 0) (.slice none 0 0) HB3.out (by omega) 0)
        simp only [Nat.zero_add] at HFB
        clear p0 p1 p2 p3 p4 p5 pf
        generalize (((((w3.setCell { block := w.heap.size + 1, off := 0 } (Value.int IntKind.i64 0)).setCell { block := w.heap.size + 1, off := 1 } (Value.bool false)).setCell { block := w.heap.size + 1, off := 2 } (Value.int IntKind.i64 0)).setCell { block := w.heap.size + 1, off := 3 } (Value.string ⟨#[]⟩)).setCell { block := w.heap.size + 1, off := 4 } (Value.slice none 0 0)).setCell { block := w.heap.size + 1, off := 5 } (Value.slice none 0 0) = WF at *
        obtain ⟨r0, r1, r2, r3, r4, r5⟩ := qAq HF.out
        refine bodyPost_ret (v := .tuple #[.agg #[.int .i64 0, .bool false, .int .i64 0, .string ⟨#[]⟩, .slice none 0 0, .slice none 0 0], .bool false]) (by simp [results, Tryd.results18, go_sem, r0, r1, r2, r3, r4, r5]) rfl ⟨_, _, rfl, Kd.R_nil _ _ _ _ _, Kd.R_nil _ _ _ _ _, HFB.out⟩
      | true =>
        simp only [if_true, reduceIte] at h
        by_cases hr : 0 ≤ q1 ∧ q1 < (l0_4.length : Int)
        · rw [if_pos hr] at h
          obtain ⟨ad, B4, b4, B5, b5, rfl, z0, z1, z2, z3, z4, z5, l4, g4, l5, g5⟩ := at_T25 (Kd.C_below X4.out HB3.out) q1 hr.1 hr.2
          have hlt : q1.toNat < l0_4.length := by omega
          have HYE := Aside0.mk (HSE.out (rd_T25 l0_4 q1) (by rw [show rd_T25 l0_4 q1 = l0_4[q1.toNat] from by simp [rd_T25, List.getD_eq_getElem?_getD, hlt]]; exact List.getElem_mem hlt))
          have G4 := Aside0.mk g4
          have G5 := Aside0.mk g5
          generalize rd_T25 l0_4 q1 = y at *
          clear g4 g5 HSE X4 X5
          obtain ⟨hr1, hr2⟩ := hr
          cases h
          go_wp2_with fail
          refine (qEl 15 y B4 b4 B5 b5 _ HYE.out G4.out l4 G5.out l5).mono ?_
          rintro e w4 ⟨v4, v5, rfl, hv4, hv5, hb4⟩
          obtain ⟨s4, t4, rfl⟩ := Kd.R_slice hv4
          obtain ⟨s5, t5, rfl⟩ := Kd.R_slice hv5
          have HB4 := Aside0.mk (qAj HB3.out hb4)
          have HY4 := Aside0.mk (qAm HY3.out hb4)
          have V4 := Aside0.mk hv4
          have V5 := Aside0.mk hv5
          have hlt3 := blk_lt HY3.out
          clear hb4 hv4 hv5 HY3 HX3 x0 x1 x2 x3 x4 x5 p0 p1 p2 p3 p4 p5 pf z0 z1 z2 z3 z4 z5
          obtain ⟨p0, p1, p2, p3, p4, p5⟩ := qAq HY4.out
          have pf := fun k => qAa HY4.out k
          go_wp2_with fail
          have HF := Aside0.mk (qB6 (.int .i64 y.f0) (.bool y.f1) (.int .i64 y.f2) (.string y.f3) (.slice s4 y.f4.length t4) (.slice s5 y.f5.length t5) HY4.out)
          have HFB := Aside0.mk (qBf (g := w.heap.size + 1) (.int .i64 y.f0) (.bool y.f1) (.int .i64 y.f2) (.string y.f3) (.slice s4 y.f4.length t4) (.slice s5 y.f5.length t5) HB4.out (by omega) 0)
          have HFO := Aside0.mk (fun k (h : k ≠ w.heap.size + 1) => qBx (w := w4) (g := w.heap.size + 1) (k := k) (.int .i64 y.f0) (.bool y.f1) (.int .i64 y.f2) (.string y.f3) (.slice s4 y.f4.length t4) (.slice s5 y.f5.length t5) 0 h)
          simp only [Nat.zero_add] at HFB HFO
          clear p0 p1 p2 p3 p4 p5 pf
          generalize (((((w4.setCell { block := w.heap.size + 1, off := 0 } (Value.int IntKind.i64 y.f0)).setCell { block := w.heap.size + 1, off := 1 } (Value.bool y.f1)).setCell { block := w.heap.size + 1, off := 2 } (Value.int IntKind.i64 y.f2)).setCell { block := w.heap.size + 1, off := 3 } (Value.string y.f3)).setCell { block := w.heap.size + 1, off := 4 } (Value.slice s4 y.f4.length t4)).setCell { block := w.heap.size + 1, off := 5 } (Value.slice s5 y.f5.length t5) = WF at *
          obtain ⟨r0, r1, r2, r3, r4, r5⟩ := qAq HF.out
          have hbw := HB3.out.size
          refine bodyPost_ret (v := .tuple #[.agg #[.int .i64 y.f0, .bool y.f1, .int .i64 y.f2, .string y.f3, .slice s4 y.f4.length t4, .slice s5 y.f5.length t5], .bool true]) (by simp [results, Tryd.results18, go_sem, r0, r1, r2, r3, r4, r5]) rfl ⟨_, _, rfl, (Kd.R_mono (Kd.R_move (Kd.R_lower (base' := w.heap.size) (Kd.R_mono (ok' := fun k => k ≠ w.heap.size + 1 ∧ some k ≠ (Value.slice s5 y.f5.length t5).ownBlock) (Kd.R_bound V4.out) (fun k hk => ⟨by have := hk.2.1; omega, hk.1⟩)) (by omega)) (fun k hk => HFO.out k hk.1)) (fun _ h_ => h_.2)), (Kd.R_mono (Kd.R_move (Kd.R_lower (base' := w.heap.size) (Kd.R_mono (ok' := fun k => k ≠ w.heap.size + 1) (Kd.R_bound V5.out) (fun k hk => by have := hk.2.1; omega)) (by omega)) (fun k hk => HFO.out k hk)) (fun _ _ => trivial)), HFB.out⟩
        · rw [if_neg hr] at h
          cases h
  · rw [value_Get.f, if_neg h5] at h
    cases h
    go_enter Tryd.func18, Tryd.ntmps18
    go_wp2_with fail
    generalize (w.alloc (.cells #[.int .i64 a0_0, .bool a0_1, .int .i64 a0_2, .string a0_3, .slice A0_4 l0_4.length c0_4, .slice A0_5 l0_5.length c0_5] 25)).alloc (.cells #[.int .i64 0, .bool false, .int .i64 0, .string ⟨#[]⟩, .slice none 0 0, .slice none 0 0] 25) = W0 at *
    have HX := Aside0.mk HT.out.1
    have HY := Aside0.mk HT.out.2
    clear HT
    obtain ⟨x0, x1, x2, x3, x4, x5⟩ := qAq HX.out
    obtain ⟨p0, p1, p2, p3, p4, p5⟩ := qAq HY.out
    have pf := fun k => qAa HY.out k
    go_wp2_with fail
    refine bodyPost_ret (v := .tuple #[.agg #[.int .i64 0, .bool false, .int .i64 0, .string ⟨#[]⟩, .slice none 0 0, .slice none 0 0], .bool false]) (by simp [results, Tryd.results18, go_sem, p0, p1, p2, p3, p4, p5]) rfl ⟨_, _, rfl, Kd.R_nil _ _ _ _ _, Kd.R_nil _ _ _ _ _, HB0.out⟩
end Go.Proofs.YtbnoihpooeombaaDoor.X

namespace Go.Proofs.YtbnoihpooeombaaDoor.P
open Go.Proofs.YtbnoihpooeombaaDoor.X
open Go.RowKit Go.Proofs.YtbnoihpooeombaaDoorW.PrintWords Go.Proofs.YtbnoihpooeombaaDoorW.PrintLast Go.Proofs.YtbnoihpooeombaaDoorW.PrintMore
attribute [local go_sem] qAr qAx
set_option linter.unusedVariables false
set_option linter.unusedSimpArgs false
def hogsheadlaw0_SameTexts.l0 : Nat → List ByteArray → List ByteArray → Int → Option (Bool)
 | 0, _, _, _ => none
 | k + 1, x0, x1, x5 => if x5 < (x0.length : Int) then (if 0 ≤ x5 then (if x5 < (x1.length : Int) then (if (rdOf ByteArray.empty x0 x5).toList = (rdOf ByteArray.empty x1 x5).toList then (hogsheadlaw0_SameTexts.l0 k x0 x1 (wrap64 (x5 + 1))) else (some false)) else (none)) else (none)) else (some true)
def hogsheadlaw0_SameTexts.f (k : Nat) (l0 : List ByteArray) (l1 : List ByteArray) : Option (Bool) := if (l0.length : Int) = (l1.length : Int) then (hogsheadlaw0_SameTexts.l0 k l0 l1 0) else (some false)
set_option maxHeartbeats 8000000 in
set_option maxRecDepth 100000 in
theorem hogsheadlaw0_SameTexts.calls (k : Nat) (A0 : Option Addr) (c0 : Nat) (l0 : List ByteArray) (A1 : Option Addr) (c1 : Nat) (l1 : List ByteArray) (r : Bool) (w : World) (hr0 : Kd.C Kd.string w A0 l0.length l0) (hc0 : l0.length ≤ c0) (hr1 : Kd.C Kd.string w A1 l1.length l1) (hc1 : l1.length ≤ c1) (h : hogsheadlaw0_SameTexts.f k l0 l1 = some r) :
  Calls Tryd.prog 55 #[.slice A0 l0.length c0, .slice A1 l1.length c1] w fun e w' => e = .returned (.bool r) ∧ Drawn0 w w' := by
 have HR0 := Aside0.mk hr0
 have HC0 := Aside0.mk hc0
 clear hr0 hc0
 have HR1 := Aside0.mk hr1
 have HC1 := Aside0.mk hc1
 clear hr1 hc1
 have H : (if (l0.length : Int) = (l1.length : Int) then (hogsheadlaw0_SameTexts.l0 k l0 l1 0) else (some false)) = some r := h
 clear h
 by_cases c3 : (l0.length : Int) = (l1.length : Int)
 ·rw [if_pos c3] at H
  have c3b0 : ((l0.length : Int) == (l1.length : Int)) = true := beq_iff_eq.mpr c3
  have c3b1 : ((l0.length : Int) != (l1.length : Int)) = false := bne_eq_false_iff_eq.mpr c3
  have c3b2 : (l0.length == l1.length) = true := by first | simpa using c3 | (simp at c3 ⊢; omega)
  clear c3
  have H' := Aside0.mk H
  clear H
  go_enter Tryd.func55, Tryd.ntmps55
  go_wp2
  repeat (go_quiet (fail); try go_wp2)
  go_loopg [5] k (fun kq v5 w' => ∃ (x5_1 : Int), v5 = .int .i64 x5_1 ∧ Aside0 (hogsheadlaw0_SameTexts.l0 kq l0 l1 x5_1 = some r) ∧ Aside0 (kq ≤ k) ∧ Drawn0 w w')
  case atStart => exact ⟨(0), (by first | rfl | (simp; done) | (simp [*]; done) | exact congrArg Value.bool (nil_ne _) | exact congrArg Value.bool (nil_eq _) | exact congrArg Value.bool (nil_ne' _)), H', ⟨Nat.le_refl _⟩, by repeat (first | exact Drawn0.refl _ | apply Drawn0.step)⟩
  case round =>
   clear H'
   try clear c1
   try clear p2
   try clear c3
   try clear c3b0
   try clear c3b1
   try clear c3b2
   obtain ⟨x5_1, rfl, HA, HK1, ⟨m1, rfl⟩⟩ := hrel
   cases gk with
   | zero => exact absurd HA.out (by simp [hogsheadlaw0_SameTexts.l0])
   | succ k1 =>
    have H := HA.out
    clear HA
    simp only [hogsheadlaw0_SameTexts.l0] at H
    by_cases c4 : x5_1 < (l0.length : Int)
    ·rw [if_pos c4] at H
     have c4b0 : decide (x5_1 < (l0.length : Int)) = true := decide_eq_true c4
     clear c4
     by_cases c5 : 0 ≤ x5_1
     ·rw [if_pos c5] at H
      have c5b0 : decide (0 ≤ x5_1) = true := decide_eq_true c5
      clear c5
      by_cases c6 : x5_1 < (l1.length : Int)
      ·rw [if_pos c6] at H
       have c6b0 : decide (x5_1 < (l1.length : Int)) = true := decide_eq_true c6
       clear c6
       by_cases c7 : (rdOf ByteArray.empty l0 x5_1).toList = (rdOf ByteArray.empty l1 x5_1).toList
       ·rw [if_pos c7] at H
        have c7b0 : ((rdOf ByteArray.empty l0 x5_1).toList == (rdOf ByteArray.empty l1 x5_1).toList) = true := beq_iff_eq.mpr c7
        have c7b1 : ((rdOf ByteArray.empty l0 x5_1).toList != (rdOf ByteArray.empty l1 x5_1).toList) = false := bne_eq_false_iff_eq.mpr c7
        clear c7
        have H' := Aside0.mk H
        clear H
        have p212 : 0 ≤ (x5_1 : Int) := of_decide_eq_true (by first | (with_reducible assumption) | assumption)
        have q212 : x5_1 < (l0.length : Int) := of_decide_eq_true (by first | (with_reducible assumption) | assumption)
        obtain ⟨ad212, e212, hx212_0⟩ := Kd.at_string HR0.out x5_1 p212 q212
        cases e212
        replace p212 := eq_true p212
        replace q212 := eq_true q212
        have p213 : 0 ≤ (x5_1 : Int) := of_decide_eq_true (by first | (with_reducible assumption) | assumption)
        have q213 : x5_1 < (l1.length : Int) := of_decide_eq_true (by first | (with_reducible assumption) | assumption)
        obtain ⟨ad213, e213, hx213_0⟩ := Kd.at_string HR1.out x5_1 p213 q213
        cases e213
        replace p213 := eq_true p213
        replace q213 := eq_true q213
        go_wp2
        repeat (go_quiet (fail); try go_wp2)
        go_roundg k1
        case measure => have := HK1.out; omega
        case rel => exact ⟨(wrap64 (x5_1 + 1)), (by first | rfl | (simp; done) | (simp [*]; done) | exact congrArg Value.bool (nil_ne _) | exact congrArg Value.bool (nil_eq _) | exact congrArg Value.bool (nil_ne' _)), H', ⟨by have := HK1.out; omega⟩, by repeat (first | exact Drawn0.refl _ | apply Drawn0.step)⟩
       ·rw [if_neg c7] at H
        have c7b0 : ((rdOf ByteArray.empty l0 x5_1).toList == (rdOf ByteArray.empty l1 x5_1).toList) = false := beq_eq_false_iff_ne.mpr c7
        have c7b1 : ((rdOf ByteArray.empty l0 x5_1).toList != (rdOf ByteArray.empty l1 x5_1).toList) = true := bne_iff_ne.mpr c7
        obtain rfl := Option.some.inj H
        have p212 : 0 ≤ (x5_1 : Int) := of_decide_eq_true (by first | (with_reducible assumption) | assumption)
        have q212 : x5_1 < (l0.length : Int) := of_decide_eq_true (by first | (with_reducible assumption) | assumption)
        obtain ⟨ad212, e212, hx212_0⟩ := Kd.at_string HR0.out x5_1 p212 q212
        cases e212
        replace p212 := eq_true p212
        replace q212 := eq_true q212
        have p213 : 0 ≤ (x5_1 : Int) := of_decide_eq_true (by first | (with_reducible assumption) | assumption)
        have q213 : x5_1 < (l1.length : Int) := of_decide_eq_true (by first | (with_reducible assumption) | assumption)
        obtain ⟨ad213, e213, hx213_0⟩ := Kd.at_string HR1.out x5_1 p213 q213
        cases e213
        replace p213 := eq_true p213
        replace q213 := eq_true q213
        go_wp2
        repeat (go_quiet (fail); try go_wp2)
        go_ret
        exact ⟨by first | rfl | (simp; done) | (simp [*]; done), by repeat (first | exact Drawn0.refl _ | apply Drawn0.step)⟩
      ·rw [if_neg c6] at H
       exact absurd H (by simp)
     ·rw [if_neg c5] at H
      exact absurd H (by simp)
    ·rw [if_neg c4] at H
     have c4b0 : decide (x5_1 < (l0.length : Int)) = false := decide_eq_false c4
     clear c4
     obtain rfl := Option.some.inj H
     go_wp2
     repeat (go_quiet (fail); try go_wp2)
     go_ret
     exact ⟨by first | rfl | (simp; done) | (simp [*]; done), by repeat (first | exact Drawn0.refl _ | apply Drawn0.step)⟩
 ·rw [if_neg c3] at H
  have c3b0 : ((l0.length : Int) == (l1.length : Int)) = false := beq_eq_false_iff_ne.mpr c3
  have c3b1 : ((l0.length : Int) != (l1.length : Int)) = true := bne_iff_ne.mpr c3
  have c3b2 : (l0.length == l1.length) = false := by first | simpa using c3 | (simp at c3 ⊢; omega)
  obtain rfl := Option.some.inj H
  go_enter Tryd.func55, Tryd.ntmps55
  go_wp2
  repeat (go_quiet (fail); try go_wp2)
  go_ret
  exact ⟨by first | rfl | (simp; done) | (simp [*]; done), by repeat (first | exact Drawn0.refl _ | apply Drawn0.step)⟩
end Go.Proofs.YtbnoihpooeombaaDoor.P
