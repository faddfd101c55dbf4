/- Part 2 of what is behind the row RowTarWhole: Pf54, XAT, XAU, Pf95, Pf92, Pf94, XCD, XCE, XCF, XCG, XCI, XCK, Pf45, Pf46, Pf28, XPQ. -/
import Derived.Test.YtdijnmcfpbceaaaDoorMTW1
import Derived.Outline
import Derived.WalkLawsBesides
import Derived.WalkSpells
import Derived.LoopTactic
import Derived.Laws.Bits64b
import Derived.Laws.BytesArg
import Derived.Lib.Hide
import Derived.Laws.NewBlocks
import Derived.Lib.AppendIntMem
import Derived.Shelf.Strings.Builder1
import Derived.Shelf.Strings.Builder2
import Derived.Shelf.Strings.OnBuilder
import Derived.Shelf.Small.Strs
import Derived.Shelf.Strings.BuilderF
import Derived.Shelf.Strings.BuilderK
import Derived.Shelf.Strconv.Atoi
import Derived.Shelf.Strconv.Itoa0
import Derived.Shelf.Strconv.Itoa1
import Derived.Shelf.LaysM
import Derived.Shelf.Strconv.Itoa2
import Derived.Shelf.Strconv.Itoa3
import Derived.Shelf.Strconv.Itoa4
import Derived.Shelf.Strconv.AtoiErrFast
import Derived.Shelf.Strconv.ParseIntEmpty
import Derived.Shelf.Strconv.AtoiFail
import Derived.Shelf.Strconv.Clone
import Derived.Shelf.Strconv.SyntaxError
import Derived.Shelf.LaysC
import Derived.Shelf.Strconv.ToError
import Derived.Shelf.Strconv.Lower
import Derived.Shelf.Strconv.ParseUint10
import Derived.Shelf.Strconv.ParseUint10Empty
import Derived.Shelf.Strconv.ParseUint10Any
import Derived.Shelf.Strconv.ParseInt10
import Derived.Shelf.Strconv.AtoiLong
import Derived.Shelf.Strconv.AtoiInnerAll
import Derived.Shelf.Strconv.RangeError
import Derived.Shelf.Strconv.ToErrorRange
import Derived.Shelf.Strconv.AtoiAll
import Derived.Shelf.Strings.Search1
import Derived.Shelf.Strings.Search2
import Derived.Shelf.Strings.Search3
import Derived.Shelf.Strings.Cut
import Derived.Shelf.Strings.Count
import Derived.Shelf.Strings.Shaped
import Derived.Shelf.Strings.Prefix
import Derived.Shelf.Strings.Split
import Derived.Shelf.Bits.Mul64
import Derived.Shelf.Strings.Repeat
import Derived.Shelf.Unicode.DecodeSlow
import Derived.Test.YtdijnmcfpbceaaaDoorProg
import Derived.WalkKit
import Derived.Lib.ItoaNum
import Derived.Lib.ItoaMem
import Derived.Below
import Derived.Deep.Draws
import Derived.Deep.AppendLies
import Derived.Maps.AppendAt
import Derived.OwnWalk
import Derived.Laws.MakeOwn
import Derived.Laws.OwnMore
import Derived.Deep.OwnRows
import Derived.Tactics
import Derived.Lib.ConvBytes
import Derived.Laws.Slices
import Derived.KernelRfl
import Derived.RowKit3
import Derived.Deep.LoopGhost
import Derived.Deep.QuietTactic
import Derived.BigQuiet
import Derived.WideLaws
import Derived.Deep.DeepCutAuto
import Derived.Deep.CutBlock
import Derived.Deep.RegionHeld3
import Derived.Laws.Rows
import Derived.Lib.AppendStr
import Derived.ArgAppend
import Derived.Laws.IdiomCopy
import Derived.RowKit
import Derived.OrdersHeld
import Derived.Laws.BitsLemmas
import Derived.Laws.Cover1
import Derived.Laws.StructEq
import Derived.Lib.SplitLaws
import Derived.Lib.IndexBytes
import Derived.Lib.IndexLaws
import Derived.Lib.LastIndexByte
import Derived.Lib.IndexMore
import Derived.Lib.Bytealg
import Derived.Laws.BitsAllLaws
import Derived.Lib.Repeat
import Derived.Maps.OwnOps
import Derived.Maps.Views
import Derived.StringKeys
import Derived.Lib.AppendZerosOnto
import Derived.Lib.BufferWrite
import Derived.Laws.CopyOwn
namespace Go.Proofs.YtdijnmcfpbceaaaDoor.P
open Go.Proofs.YtdijnmcfpbceaaaDoor.X
open Go.RowKit Go.Proofs.YtdijnmcfpbceaaaDoorW.PrintWords Go.Proofs.YtdijnmcfpbceaaaDoorW.PrintLast Go.Proofs.YtdijnmcfpbceaaaDoorW.PrintMore
attribute [local go_sem] qAt qAy
set_option linter.unusedVariables false
set_option linter.unusedSimpArgs false
mutual
def tree_Good.j0 : Nat → Bool → ByteArray → Int → ByteArray → Option (Bool)
 | 0, _, _, _, _ => none
 | k + 1, x12, x112000, x112001, x112002 => if x12 = true then (some false) else (if x112001 = 1 then (some (x112002.toList == ([] : List UInt8))) else (if x112001 = 2 then (tree_Good.j1 k x112001 (x112001 == 2) x112000 x112001 x112002) else (tree_Good.j1 k x112001 (x112001 == 3) x112000 x112001 x112002)))
def tree_Good.j1 : Nat → Int → Bool → ByteArray → Int → ByteArray → Option (Bool)
 | 0, _, _, _, _, _ => none
 | k + 1, x14, x20, x112000, x112001, x112002 => if x20 = true then (some true) else (if x14 = 4 then (if x112002.toList = ([] : List UInt8) then (some false) else ((strings_IndexByte.f x112002 0).bind fun t113 => (some (decide (t113 < 0))))) else (some false))
end
def tree_Good.f (k : Nat) (a0_0 : ByteArray) (a0_1 : Int) (a0_2 : ByteArray) : Option (Bool) := (path_May.f a0_0).bind fun t112 => (if t112 = true then (tree_Good.j0 k (decide ((a0_2.size : Int) > 400)) a0_0 a0_1 a0_2) else (tree_Good.j0 k true a0_0 a0_1 a0_2))
set_option maxHeartbeats 8000000 in
set_option maxRecDepth 100000 in
theorem tree_Good.calls (k : Nat) (a0_0 : ByteArray) (a0_1 : Int) (a0_2 : ByteArray) (r : Bool) (w : World) (hT : Aside0 (Tabs w)) (h : tree_Good.f k a0_0 a0_1 a0_2 = some r) :
  Calls Tryd.prog 54 #[.agg #[.string a0_0, .int .i64 a0_1, .string a0_2]] w fun e w' => e = .returned (.bool r) ∧ Below w.heap.size w w' := by
 have hu29 := Tryd.underlying29
 have HB := Aside0.mk (Below.refl w.heap.size w)
 have H : ((path_May.f a0_0).bind fun t112 => (if t112 = true then (tree_Good.j0 k (decide ((a0_2.size : Int) > 400)) a0_0 a0_1 a0_2) else (tree_Good.j0 k true a0_0 a0_1 a0_2))) = some r := h
 clear h
 have HC2 := Aside0.mk H
 clear H
 go_enter Tryd.func54, Tryd.ntmps54
 go_upto_region 1 with (first | ((with_reducible refine qBe (N := 1) rfl ?_); (try (refine qA8 (by rfl) ?_; dsimp only)); refine qA7 ?hg (N := 1) ?hd (cs := #[.string a0_0, .int .i64 a0_1, .string a0_2]) (t := 29) ?hr ?_; (case hd => rfl); (case hg => rfl); (case hr => first | (go_simp; done) | (go_simp; rfl)); intro gb111 hg w3 hbox hb; have n0_ := Aside0.mk (qAe (by repeat (first | (with_reducible first | exact HB.out | apply qAb | apply qAa | apply qAc) | exact HB.out)) hb); have n1_ := Aside0.mk (hbox); have n2_ := Aside0.mk ((by rw [hg]; exact (qAm (by repeat (first | (with_reducible first | exact HB.out | apply qAb | apply qAa | apply qAc) | exact HB.out))) : w.heap.size ≤ gb111)); have n3_ := Aside0.mk ((by rw [hg]; exact (qAm (by repeat (first | (with_reducible first | exact HB.out | apply qAb | apply qAa | apply qAc) | exact HB.out))) : w.heap.size ≤ gb111)); clear HB; have HB := n0_; have BK111 := n1_; have GW111 := n2_; have GE111 := n3_; clear n0_ n1_ n2_ n3_; clear hb hbox hg))
 (try simp only [Act.put, List.setIfInBounds_toArray, List.set_cons_zero, List.set_cons_succ])
 go_cut [12] (fun v12 wc => ∃ (kq : Nat) (x12_1 : Bool), v12 = .bool x12_1 ∧ Aside0 (tree_Good.j0 kq x12_1 a0_0 a0_1 a0_2 = some r) ∧ Aside0 (kq ≤ k) ∧ Aside0 (wc.heap[gb111]? = some (.cells #[.string a0_0, .int .i64 a0_1, .string a0_2] 29 (0, 0))) ∧ Aside0 (Below w.heap.size w wc))
 case first =>
  have H := HC2.out
  clear HC2
  replace H := Option.bind_eq_some_iff.mp H
  obtain ⟨t112, A40, H⟩ := H
  replace H : (if t112 = true then (tree_Good.j0 k (decide ((a0_2.size : Int) > 400)) a0_0 a0_1 a0_2) else (tree_Good.j0 k true a0_0 a0_1 a0_2)) = some r := H
  have A4 := Aside0.mk A40
  clear A40
  by_cases c5 : t112 = true
  ·subst c5
   have H1 : (tree_Good.j0 k (decide ((a0_2.size : Int) > 400)) a0_0 a0_1 a0_2) = some r := by rw [if_pos rfl] at H; exact H
   clear H
   have H := H1
   clear H1
   have H' := Aside0.mk H
   clear H
   have hcz6_0 : w3.cell? ⟨gb111, 0, none⟩ = some (.string a0_0) := (qAd BK111.out 0).trans rfl
   have hcz6_1 : w3.cell? ⟨gb111, 1, none⟩ = some (.int .i64 a0_1) := (qAd BK111.out 1).trans rfl
   have hcz6_2 : w3.cell? ⟨gb111, 2, none⟩ = some (.string a0_2) := (qAd BK111.out 2).trans rfl
   have hfz6_0 := qAf BK111.out 0
   have hfz6_1 := qAf BK111.out 1
   have hfz6_2 := qAf BK111.out 2
   go_wp2_with (first | ((with_reducible refine qAp (f := 89) rfl ?_); refine goesL_ (some 5) rfl rfl Tryd.func89 (by kernel_rfl) rfl #[.string a0_0] rfl (by (try simp only [List.map_toArray, List.map_cons, List.map_nil]); first | done | rfl | (simp only [List.length_drop, List.length_take]; rfl)) ?_; (with_reducible refine (path_May.calls a0_0 true _ ?side1 A4.out).mono ?_); (case side1 => exact ⟨Tabs.below hT.out (by repeat (first | (with_reducible first | exact HB.out | apply qAb | apply qAa | apply qAc | refine below_set ?_ GE111.out) | exact HB.out))⟩); rintro e w7 ⟨rfl, hb⟩; refine ⟨_, rfl, ?_⟩; have n0_ := Aside0.mk (qAg (g := gb111) (o := .cells #[.string a0_0, .int .i64 a0_1, .string a0_2] 29 (0, 0)) (by (with_reducible repeat (first | refine blk_drewN ?_ _ | refine blk_drew ?_ | refine blk_alloc ?_ _)); exact BK111.out) hb); have n1_ := Aside0.mk (qAe (by repeat (first | (with_reducible first | exact HB.out | apply qAb | apply qAa | apply qAc | refine below_set ?_ GE111.out) | exact HB.out)) hb); clear BK111; clear HB; have BK111 := n0_; have HB := n1_; clear n0_ n1_; (try clear hb); (try clear hb2); (try clear hk); (try clear hi); have hcz8_0 : w7.cell? ⟨gb111, 0, none⟩ = some (.string a0_0) := (qAd BK111.out 0).trans rfl; have hcz8_1 : w7.cell? ⟨gb111, 1, none⟩ = some (.int .i64 a0_1) := (qAd BK111.out 1).trans rfl; have hcz8_2 : w7.cell? ⟨gb111, 2, none⟩ = some (.string a0_2) := (qAd BK111.out 2).trans rfl; have hfz8_0 := qAf BK111.out 0; have hfz8_1 := qAf BK111.out 1; have hfz8_2 := qAf BK111.out 2))
   go_meet
   case rel => exact ⟨_, (decide ((a0_2.size : Int) > 400)), (by first | rfl | (simp; done) | (simp [*]; done) | exact congrArg Value.bool (nil_ne _) | exact congrArg Value.bool (nil_eq _) | exact congrArg Value.bool (nil_ne' _)), H', ⟨by first | omega | exact Nat.le_refl _⟩, ⟨by (with_reducible repeat (first | refine blk_drewN ?_ _ | refine blk_drew ?_ | refine blk_alloc ?_ _)); exact BK111.out⟩, ⟨by repeat (first | (with_reducible first | exact HB.out | apply qAb | apply qAa | apply qAc | refine below_set ?_ GE111.out) | exact HB.out)⟩⟩
  ·replace c5 := Bool.eq_false_iff.mpr c5
   subst c5
   have H1 : (tree_Good.j0 k true a0_0 a0_1 a0_2) = some r := by rw [if_neg (show ¬ (false = true) by decide)] at H; exact H
   clear H
   have H := H1
   clear H1
   have H' := Aside0.mk H
   clear H
   have hcz9_0 : w3.cell? ⟨gb111, 0, none⟩ = some (.string a0_0) := (qAd BK111.out 0).trans rfl
   have hcz9_1 : w3.cell? ⟨gb111, 1, none⟩ = some (.int .i64 a0_1) := (qAd BK111.out 1).trans rfl
   have hcz9_2 : w3.cell? ⟨gb111, 2, none⟩ = some (.string a0_2) := (qAd BK111.out 2).trans rfl
   have hfz9_0 := qAf BK111.out 0
   have hfz9_1 := qAf BK111.out 1
   have hfz9_2 := qAf BK111.out 2
   go_wp2_with (first | ((with_reducible refine qAp (f := 89) rfl ?_); refine goesL_ (some 5) rfl rfl Tryd.func89 (by kernel_rfl) rfl #[.string a0_0] rfl (by (try simp only [List.map_toArray, List.map_cons, List.map_nil]); first | done | rfl | (simp only [List.length_drop, List.length_take]; rfl)) ?_; (with_reducible refine (path_May.calls a0_0 false _ ?side1 A4.out).mono ?_); (case side1 => exact ⟨Tabs.below hT.out (by repeat (first | (with_reducible first | exact HB.out | apply qAb | apply qAa | apply qAc | refine below_set ?_ GE111.out) | exact HB.out))⟩); rintro e w10 ⟨rfl, hb⟩; refine ⟨_, rfl, ?_⟩; have n0_ := Aside0.mk (qAg (g := gb111) (o := .cells #[.string a0_0, .int .i64 a0_1, .string a0_2] 29 (0, 0)) (by (with_reducible repeat (first | refine blk_drewN ?_ _ | refine blk_drew ?_ | refine blk_alloc ?_ _)); exact BK111.out) hb); have n1_ := Aside0.mk (qAe (by repeat (first | (with_reducible first | exact HB.out | apply qAb | apply qAa | apply qAc | refine below_set ?_ GE111.out) | exact HB.out)) hb); clear BK111; clear HB; have BK111 := n0_; have HB := n1_; clear n0_ n1_; (try clear hb); (try clear hb2); (try clear hk); (try clear hi)))
   go_meet
   case rel => exact ⟨_, (true), (by first | rfl | (simp; done) | (simp [*]; done) | exact congrArg Value.bool (nil_ne _) | exact congrArg Value.bool (nil_eq _) | exact congrArg Value.bool (nil_ne' _)), H', ⟨by first | omega | exact Nat.le_refl _⟩, ⟨by (with_reducible repeat (first | refine blk_drewN ?_ _ | refine blk_drew ?_ | refine blk_alloc ?_ _)); exact BK111.out⟩, ⟨by repeat (first | (with_reducible first | exact HB.out | apply qAb | apply qAa | apply qAc | refine below_set ?_ GE111.out) | exact HB.out)⟩⟩
 case rest =>
  clear HC2
  try clear p2
  try clear c5
  try clear c8
  try clear hcz6_0
  try clear hcz6_1
  try clear hcz6_2
  try clear hcz8_0
  try clear hcz8_1
  try clear hcz8_2
  try clear hcz9_0
  try clear hcz9_1
  try clear hcz9_2
  try clear hfz6_0
  try clear hfz6_1
  try clear hfz6_2
  try clear hfz8_0
  try clear hfz8_1
  try clear hfz8_2
  try clear hfz9_0
  try clear hfz9_1
  try clear hfz9_2
  obtain ⟨kq, x12_1, rfl, HA, HJ1, BK111, HB⟩ := hcut
  cases kq with
  | zero => exact absurd HA.out (by simp [tree_Good.j0])
  | succ kj1 =>
   have H := HA.out
   clear HA
   simp only [tree_Good.j0] at H
   by_cases c11 : x12_1 = true
   ·subst c11
    have H1 : (some false) = some r := by rw [if_pos rfl] at H; exact H
    clear H
    have H := H1
    clear H1
    obtain rfl := Option.some.inj H
    go_wp2
    go_ret
    exact ⟨by first | rfl | (simp [qAi, qAh] <;> rfl) | (simp [*, qAi, qAh] <;> rfl), by repeat (first | (with_reducible first | exact HB.out | apply qAb | apply qAa | apply qAc | refine below_set ?_ GE111.out) | exact HB.out)⟩
   ·replace c11 := Bool.eq_false_iff.mpr c11
    subst c11
    have H1 : (if a0_1 = 1 then (some (a0_2.toList == ([] : List UInt8))) else (if a0_1 = 2 then (tree_Good.j1 kj1 a0_1 (a0_1 == 2) a0_0 a0_1 a0_2) else (tree_Good.j1 kj1 a0_1 (a0_1 == 3) a0_0 a0_1 a0_2))) = some r := by rw [if_neg (show ¬ (false = true) by decide)] at H; exact H
    clear H
    have H := H1
    clear H1
    by_cases c12 : a0_1 = 1
    ·rw [if_pos c12] at H
     have c12b0 : (a0_1 == 1) = true := beq_iff_eq.mpr c12
     have c12b1 : (a0_1 != 1) = false := bne_eq_false_iff_eq.mpr c12
     clear c12
     obtain rfl := Option.some.inj H
     have hcz13_0 : wc.cell? ⟨gb111, 0, none⟩ = some (.string a0_0) := (qAd BK111.out 0).trans rfl
     have hcz13_1 : wc.cell? ⟨gb111, 1, none⟩ = some (.int .i64 a0_1) := (qAd BK111.out 1).trans rfl
     have hcz13_2 : wc.cell? ⟨gb111, 2, none⟩ = some (.string a0_2) := (qAd BK111.out 2).trans rfl
     have hfz13_0 := qAf BK111.out 0
     have hfz13_1 := qAf BK111.out 1
     have hfz13_2 := qAf BK111.out 2
     go_wp2
     go_ret
     exact ⟨by first | rfl | (simp [qAi, qAh] <;> rfl) | (simp [*, qAi, qAh] <;> rfl), by repeat (first | (with_reducible first | exact HB.out | apply qAb | apply qAa | apply qAc | refine below_set ?_ GE111.out) | exact HB.out)⟩
    ·rw [if_neg c12] at H
     have c12b0 : (a0_1 == 1) = false := beq_eq_false_iff_ne.mpr c12
     have c12b1 : (a0_1 != 1) = true := bne_iff_ne.mpr c12
     have HC14 := Aside0.mk H
     clear H
     have hcz15_0 : wc.cell? ⟨gb111, 0, none⟩ = some (.string a0_0) := (qAd BK111.out 0).trans rfl
     have hcz15_1 : wc.cell? ⟨gb111, 1, none⟩ = some (.int .i64 a0_1) := (qAd BK111.out 1).trans rfl
     have hcz15_2 : wc.cell? ⟨gb111, 2, none⟩ = some (.string a0_2) := (qAd BK111.out 2).trans rfl
     have hfz15_0 := qAf BK111.out 0
     have hfz15_1 := qAf BK111.out 1
     have hfz15_2 := qAf BK111.out 2
     go_upto_if 20 with (fail)
     go_cut [20] (fun v20 wc => ∃ (kq : Nat) (x20_13 : Bool), v20 = .bool x20_13 ∧ Aside0 (tree_Good.j1 kq a0_1 x20_13 a0_0 a0_1 a0_2 = some r) ∧ Aside0 (kq ≤ kj1) ∧ Aside0 (wc.heap[gb111]? = some (.cells #[.string a0_0, .int .i64 a0_1, .string a0_2] 29 (0, 0))) ∧ Aside0 (Below w.heap.size w wc))
     case first =>
      have H := HC14.out
      clear HC14
      by_cases c16 : a0_1 = 2
      ·rw [if_pos c16] at H
       have c16b0 : (a0_1 == 2) = true := beq_iff_eq.mpr c16
       have c16b1 : (a0_1 != 2) = false := bne_eq_false_iff_eq.mpr c16
       clear c16
       (first | rw [c16b0] | (simp only [i64_w, i32_w]; rw [c16b0]) | skip)
       have H' := Aside0.mk H
       clear H
       go_wp2
       go_meet
       case rel => exact ⟨_, ((a0_1 == 2)), (by first | rfl | (simp; done) | (simp [*]; done) | exact congrArg Value.bool (nil_ne _) | exact congrArg Value.bool (nil_eq _) | exact congrArg Value.bool (nil_ne' _)), H', ⟨by have := HJ1.out; first | omega | exact Nat.le_refl _⟩, ⟨by (with_reducible repeat (first | refine blk_drewN ?_ _ | refine blk_drew ?_ | refine blk_alloc ?_ _)); exact BK111.out⟩, ⟨by repeat (first | (with_reducible first | exact HB.out | apply qAb | apply qAa | apply qAc | refine below_set ?_ GE111.out) | exact HB.out)⟩⟩
      ·rw [if_neg c16] at H
       have c16b0 : (a0_1 == 2) = false := beq_eq_false_iff_ne.mpr c16
       have c16b1 : (a0_1 != 2) = true := bne_iff_ne.mpr c16
       (first | rw [c16b0] | (simp only [i64_w, i32_w]; rw [c16b0]) | skip)
       have H' := Aside0.mk H
       clear H
       go_wp2
       go_meet
       case rel => exact ⟨_, ((a0_1 == 3)), (by first | rfl | (simp; done) | (simp [*]; done) | exact congrArg Value.bool (nil_ne _) | exact congrArg Value.bool (nil_eq _) | exact congrArg Value.bool (nil_ne' _)), H', ⟨by have := HJ1.out; first | omega | exact Nat.le_refl _⟩, ⟨by (with_reducible repeat (first | refine blk_drewN ?_ _ | refine blk_drew ?_ | refine blk_alloc ?_ _)); exact BK111.out⟩, ⟨by repeat (first | (with_reducible first | exact HB.out | apply qAb | apply qAa | apply qAc | refine below_set ?_ GE111.out) | exact HB.out)⟩⟩
     case rest =>
      clear HC14
      try clear c1
      try clear p2
      try clear c5
      try clear c8
      try clear c11
      try clear c12
      try clear c12b0
      try clear c12b1
      try clear c16
      try clear c16b0
      try clear c16b1
      try clear hcz13_0
      try clear hcz13_1
      try clear hcz13_2
      try clear hcz15_0
      try clear hcz15_1
      try clear hcz15_2
      try clear hcz6_0
      try clear hcz6_1
      try clear hcz6_2
      try clear hcz8_0
      try clear hcz8_1
      try clear hcz8_2
      try clear hcz9_0
      try clear hcz9_1
      try clear hcz9_2
      try clear hfz13_0
      try clear hfz13_1
      try clear hfz13_2
      try clear hfz15_0
      try clear hfz15_1
      try clear hfz15_2
      try clear hfz6_0
      try clear hfz6_1
      try clear hfz6_2
      try clear hfz8_0
      try clear hfz8_1
      try clear hfz8_2
      try clear hfz9_0
      try clear hfz9_1
      try clear hfz9_2
      try clear p2
      obtain ⟨kq, x20_13, rfl, HA, HJ13, BK111, HB⟩ := hcut
      cases kq with
      | zero => exact absurd HA.out (by simp [tree_Good.j1])
      | succ kj13 =>
       have H := HA.out
       clear HA
       simp only [tree_Good.j1] at H
       by_cases c17 : x20_13 = true
       ·subst c17
        have H1 : (some true) = some r := by rw [if_pos rfl] at H; exact H
        clear H
        have H := H1
        clear H1
        obtain rfl := Option.some.inj H
        go_wp2
        go_ret
        exact ⟨by first | rfl | (simp [qAi, qAh] <;> rfl) | (simp [*, qAi, qAh] <;> rfl), by repeat (first | (with_reducible first | exact HB.out | apply qAb | apply qAa | apply qAc | refine below_set ?_ GE111.out) | exact HB.out)⟩
       ·replace c17 := Bool.eq_false_iff.mpr c17
        subst c17
        have H1 : (if a0_1 = 4 then (if a0_2.toList = ([] : List UInt8) then (some false) else ((strings_IndexByte.f a0_2 0).bind fun t113 => (some (decide (t113 < 0))))) else (some false)) = some r := by rw [if_neg (show ¬ (false = true) by decide)] at H; exact H
        clear H
        have H := H1
        clear H1
        by_cases c18 : a0_1 = 4
        ·rw [if_pos c18] at H
         have c18b0 : (a0_1 == 4) = true := beq_iff_eq.mpr c18
         have c18b1 : (a0_1 != 4) = false := bne_eq_false_iff_eq.mpr c18
         clear c18
         by_cases c19 : a0_2.toList = ([] : List UInt8)
         ·rw [if_pos c19] at H
          have c19b0 : (a0_2.toList == ([] : List UInt8)) = true := beq_iff_eq.mpr c19
          have c19b1 : (a0_2.toList != ([] : List UInt8)) = false := bne_eq_false_iff_eq.mpr c19
          clear c19
          obtain rfl := Option.some.inj H
          have hcz20_0 : wc.cell? ⟨gb111, 0, none⟩ = some (.string a0_0) := (qAd BK111.out 0).trans rfl
          have hcz20_1 : wc.cell? ⟨gb111, 1, none⟩ = some (.int .i64 a0_1) := (qAd BK111.out 1).trans rfl
          have hcz20_2 : wc.cell? ⟨gb111, 2, none⟩ = some (.string a0_2) := (qAd BK111.out 2).trans rfl
          have hfz20_0 := qAf BK111.out 0
          have hfz20_1 := qAf BK111.out 1
          have hfz20_2 := qAf BK111.out 2
          go_wp2
          go_ret
          exact ⟨by first | rfl | (simp [qAi, qAh] <;> rfl) | (simp [*, qAi, qAh] <;> rfl), by repeat (first | (with_reducible first | exact HB.out | apply qAb | apply qAa | apply qAc | refine below_set ?_ GE111.out) | exact HB.out)⟩
         ·rw [if_neg c19] at H
          have c19b0 : (a0_2.toList == ([] : List UInt8)) = false := beq_eq_false_iff_ne.mpr c19
          have c19b1 : (a0_2.toList != ([] : List UInt8)) = true := bne_iff_ne.mpr c19
          replace H := Option.bind_eq_some_iff.mp H
          obtain ⟨t113, A210, H⟩ := H
          replace H : (some (decide (t113 < 0))) = some r := H
          have A21 := Aside0.mk A210
          clear A210
          obtain rfl := Option.some.inj H
          have hcz22_0 : wc.cell? ⟨gb111, 0, none⟩ = some (.string a0_0) := (qAd BK111.out 0).trans rfl
          have hcz22_1 : wc.cell? ⟨gb111, 1, none⟩ = some (.int .i64 a0_1) := (qAd BK111.out 1).trans rfl
          have hcz22_2 : wc.cell? ⟨gb111, 2, none⟩ = some (.string a0_2) := (qAd BK111.out 2).trans rfl
          have hfz22_0 := qAf BK111.out 0
          have hfz22_1 := qAf BK111.out 1
          have hfz22_2 := qAf BK111.out 2
          go_wp2_with (first | (go_at_call 90; (with_reducible refine (strings_IndexByte.calls a0_2 0 t113 _ A21.out).mono ?_); rintro e w' ⟨rfl, ⟨nd, rfl⟩⟩))
          go_ret
          exact ⟨by first | rfl | (simp [qAi, qAh] <;> rfl) | (simp [*, qAi, qAh] <;> rfl), by repeat (first | (with_reducible first | exact HB.out | apply qAb | apply qAa | apply qAc | refine below_set ?_ GE111.out) | exact HB.out)⟩
        ·rw [if_neg c18] at H
         have c18b0 : (a0_1 == 4) = false := beq_eq_false_iff_ne.mpr c18
         have c18b1 : (a0_1 != 4) = true := bne_iff_ne.mpr c18
         obtain rfl := Option.some.inj H
         go_wp2
         go_ret
         exact ⟨by first | rfl | (simp [qAi, qAh] <;> rfl) | (simp [*, qAi, qAh] <;> rfl), by repeat (first | (with_reducible first | exact HB.out | apply qAb | apply qAa | apply qAc | refine below_set ?_ GE111.out) | exact HB.out)⟩
end Go.Proofs.YtdijnmcfpbceaaaDoor.P

namespace Go.Proofs.YtdijnmcfpbceaaaDoor.X
open Go.Maps Go.WideMaps Go.RowKit Go.Proofs.YtdijnmcfpbceaaaDoorW.PrintWords Go.Proofs.YtdijnmcfpbceaaaDoorW.PrintLast Go.Proofs.YtdijnmcfpbceaaaDoorW.PrintMore Go.Proofs.YtdijnmcfpbceaaaDoor.P
set_option linter.unusedVariables false
set_option linter.unusedSimpArgs false
theorem qHq (n : S29) : tree_Good.f 3 n.f0 n.f1 n.f2 = some (goodN n) := by
  unfold tree_Good.f path_May.f goodN
  simp only [Option.bind_some, tree_Good.j0, tree_Good.j1, strings_IndexByte.f]
  have i2 := indexByte_none n.f2.data.toList 0
  rw [show ((0 : Int).toNat.toUInt8) = (0 : UInt8) from rfl]
  have hb : (n.f2.toList == []) = decide (n.f2.size = 0) := by
    rw [Bool.eq_iff_iff, beq_iff_eq, decide_eq_true_eq]
    exact qAu _
  rw [hb]
  simp only [qAu, i2]
  cases hp : pathB n.f0.data.toList with
  | false => simp
  | true =>
    by_cases h4 : n.f2.size ≤ 400
    · have h4' : ¬ ((n.f2.size : Int) > 400) := by omega
      rw [decide_eq_false h4', decide_eq_true h4]
      simp only [if_pos trivial, Bool.true_and, if_neg (show ¬ (false = true) from by simp)]
      by_cases k1 : n.f1 = 1
      · simp [k1]
      · by_cases k2 : n.f1 = 2
        · simp [k2]
        · by_cases k3 : n.f1 = 3
          · simp [k3]
          · by_cases k4 : n.f1 = 4
            · by_cases k5 : n.f2.size = 0
              · simp [k4, k5]
              · simp [k4, k5]
            · simp [k1, k2, k3, k4]
    · have h4' : ((n.f2.size : Int) > 400) := by omega
      simp [h4, h4']
theorem keyS : Maps.Keyed Tryd.prog 9 := Maps.string_keyed Tryd.underlying9
set_option maxRecDepth 100000 in
theorem zeroB (w : World) : (zeroValue 4).run Tryd.prog w = .ok (.bool false) w := by kernel_rfl
set_option maxRecDepth 100000 in
theorem qCb {v : Value} {z : DataW Unit × List MemPlace} (h : plainElem Tryd.prog 4 v = some z) : ∃ x, v = .bool x ∧ z = (.lit (.bool x), []) := by
  have hu := Tryd.underlying4
  unfold plainElem at h
  generalize Tryd.prog.underlying 4 = u at h hu
  subst hu
  cases v <;> simp at h
  exact ⟨_, rfl, h.symm⟩
theorem qF9 {w : World} {Bm m : Nat} {D : DataW Unit} (h : w.ownsMap Tryd.prog 9 (plainElem Tryd.prog 4) Bm m D) (p : ByteArray) (hp : p.size ≤ maxLen) :
    ∃ b, (Instr.lookup 93 (.map (some Bm)) (.string p) false).run Tryd.prog w = .ok (.bool b) w ∧ D.atKey (.string p.data.toList) (.lit (.bool false)) = .lit (.bool b) := by
  obtain ⟨v, ps, hrun, hv⟩ := h.lookup keyS Tryd.underlying93 (zeroB w) (plainElem_bool Tryd.underlying4 false) (key := .string p) (kl := .string p.data.toList) (keyOf_string_mk Tryd.underlying9 hp)
  obtain ⟨x, rfl, hx⟩ := qCb hv
  injection hx with h1 h2
  exact ⟨x, hrun, h1⟩
theorem qBd {w w1 : World} {Bm m : Nat} {D : DataW Unit} (h : w.ownsMap Tryd.prog 9 (plainElem Tryd.prog 4) Bm m D) (hb : Below w.heap.size w w1) : w1.ownsMap Tryd.prog 9 (plainElem Tryd.prog 4) Bm m D := by
  have hl := h.lt
  obtain ⟨es, clock, hg, F, hs, hD⟩ := h
  exact ⟨es, clock, (hb.block Bm hl).trans hg, F, hs, hD⟩
theorem qGz {w : World} {Bm m : Nat} {D : DataW Unit} {t : List S29} (h : w.ownsMap Tryd.prog 9 (plainElem Tryd.prog 4) Bm m D) (hD : ∀ p : ByteArray, D.atKey (.string p.data.toList) (.lit (.bool false)) = .lit (.bool (dirAt t p))) (p : ByteArray) (hp : p.size ≤ maxLen) :
    (Instr.lookup 93 (.map (some Bm)) (.string p) false).run Tryd.prog w = .ok (.bool (dirAt t p)) w := by
  obtain ⟨b, hrun, hb⟩ := qF9 h p hp
  have hb : dirAt t p = b := Lit.bool.inj (DataW.lit.inj ((hD p).symm.trans hb))
  rw [hb]
  exact hrun
theorem qC9 (l : List S29) (i : Nat) (h : i < l.length) : rd_T29 l (i : Int) = l[i] := by
  simp [rd_T29, List.getD_eq_getElem?_getD, h]
theorem qBm {p : ByteArray} (h : pathB p.data.toList = true) : p.size ≤ 200 := by
  unfold pathB at h
  rw [Bool.or_eq_true, Bool.and_eq_true, Bool.and_eq_true, decide_eq_true_eq, decide_eq_true_eq, qAn] at h
  rcases h with h | h
  · have : p.size = 0 := by rw [← qAn, h]; rfl
    omega
  · exact h.1.1
theorem qGo {p : ByteArray} (h : p.size ≤ 200) : (upS p).size ≤ 200 := by
  rw [qFw, ByteArray.size_extract]
  omega
set_option maxHeartbeats 4000000 in
theorem qD2 (n : S29) (A0 : Option Addr) (c0 : Nat) (t : List S29) (Bm m : Nat) (D : DataW Unit) (w : World) (hT : Aside0 (Tabs w)) (hC : Kd.C k29 w A0 t.length t) (hc : t.length ≤ c0) (hn : t.length ≤ 100000)
    (hM : w.ownsMap Tryd.prog 9 (plainElem Tryd.prog 4) Bm m D) (hD : ∀ p : ByteArray, D.atKey (.string p.data.toList) (.lit (.bool false)) = .lit (.bool (dirAt t p))) :
    Calls Tryd.prog 55 #[.agg #[.string n.f0, .int .i64 n.f1, .string n.f2], .slice A0 t.length c0, .map (some Bm)] w fun e w' => e = .returned (.bool (qA4 t n)) ∧ Below w.heap.size w w' := by
  have X := Aside0.mk hC
  have HM := Aside0.mk hM
  have HD := Aside0.mk hD
  clear hC hM hD
  go_enter Tryd.func55, Tryd.ntmps55
  by_cases h0 : t.length = 0
  · have ht : t = [] := List.eq_nil_of_length_eq_zero h0
    have h00 : ((t.length : Int) == 0) = true := by rw [h0]; rfl
    obtain ⟨b0, hb0⟩ : ∃ b, (n.f0.toList == []) = b := ⟨_, rfl⟩
    have HF := Aside0.mk (show qA4 t n = b0 from by
      rw [ht]
      unfold qA4
      show decide (n.f0.size = 0) = b0
      rw [← hb0, Bool.eq_iff_iff, beq_iff_eq, decide_eq_true_eq]
      exact (qAu _).symm)
    clear ht
    go_wp2_with fail
    go_ret
    rw [HF.out]
    exact ⟨rfl, qAb (Below.refl _ _) _⟩
  · have h00 : ((t.length : Int) == 0) = false := beq_eq_false_iff_ne.2 (by omega)
    go_wp2_with fail
    refine (qEe n.f0 _ ⟨Tabs.below hT.out (qAb (Below.refl _ _) _)⟩).mono ?_
    rintro e w1 ⟨rfl, hB⟩
    have HB := Aside0.mk (qAe (qAb (Below.refl w.heap.size w) (.cells #[.string n.f0, .int .i64 n.f1, .string n.f2] 29)) hB)
    have HZ := Aside0.mk (qAg (qB0 w (.cells #[.string n.f0, .int .i64 n.f1, .string n.f2] 29)) hB)
    clear hB
    have hz0 : w1.cell? ⟨w.heap.size, 0, none⟩ = some (.string n.f0) := (qAd HZ.out 0).trans rfl
    obtain ⟨ok, hok⟩ : ∃ b, (qBb n.f0).2 = b := ⟨_, rfl⟩
    rw [hok]
    cases ok with
    | false =>
      have HF := Aside0.mk (show qA4 t n = false from by
        have hx : ¬ (n.f0.size ≠ 0 ∧ pathB n.f0.data.toList = true) := fun hx => by
          unfold qBb at hok
          rw [if_neg (by rw [not_or]; exact ⟨hx.1, by rw [hx.2]; simp⟩)] at hok
          cases hok
        unfold qA4
        cases hl : t.getLast? with
        | none => exact absurd (List.getLast?_eq_none_iff.1 hl) (fun e => h0 (by rw [e]; rfl))
        | some l =>
          show (decide (n.f0.size ≠ 0) && pathB n.f0.data.toList && ltB l.f0 n.f0 && dirAt t (upS n.f0)) = false
          cases h1 : pathB n.f0.data.toList with
          | false => simp
          | true =>
            have : n.f0.size = 0 := Classical.byContradiction fun e => hx ⟨e, h1⟩
            simp [this])
      go_wp2_with fail
      go_quiet (fail)
      go_wp2_with fail
      go_ret
      rw [HF.out]
      exact ⟨rfl, qAa HB.out _⟩
    | true =>
      have HU := Aside0.mk (show (qBb n.f0).1 = upS n.f0 ∧ n.f0.size ≠ 0 ∧ pathB n.f0.data.toList = true from by
        unfold qBb at hok ⊢
        split at hok
        · cases hok
        · rename_i h
          rw [if_neg h]
          rw [not_or] at h
          exact ⟨rfl, h.1, by simpa using h.2⟩)
      rw [HU.out.1]
      clear hok
      obtain ⟨m1, hm1⟩ : ∃ k, t.length = k + 1 := ⟨t.length - 1, by omega⟩
      obtain ⟨ad, rfl, z0, z1, z2⟩ := at_T29 (Kd.C_below X.out HB.out) (m1 : Int) (by omega) (by omega)
      have hsub : (t.length : Int) - 1 = (m1 : Int) := by omega
      have hi0 : 0 ≤ (m1 : Int) := by omega
      have hic : decide ((m1 : Int) < (t.length : Int)) = true := decide_eq_true (by omega)
      simp only [Int.toNat_natCast] at z0 z1 z2
      have hlast : t.getLast? = some (rd_T29 t (m1 : Int)) := by
        rw [qC9 t m1 (by omega), List.getLast?_eq_getElem?, show t.length - 1 = m1 by omega, List.getElem?_eq_getElem (by omega)]
      obtain ⟨bd, hbd⟩ : ∃ b, dirAt t (upS n.f0) = b := ⟨_, rfl⟩
      have HF := Aside0.mk (show qA4 t n = (ltB (rd_T29 t (m1 : Int)).f0 n.f0 && bd) from by
        unfold qA4
        rw [hlast, ← hbd]
        show (decide (n.f0.size ≠ 0) && pathB n.f0.data.toList && ltB _ n.f0 && dirAt t (upS n.f0)) = _
        rw [decide_eq_true HU.out.2.1, HU.out.2.2, Bool.true_and, Bool.true_and])
      have HDb := Aside0.mk hbd
      clear hlast z1 z2 hbd hm1
      generalize rd_T29 t (m1 : Int) = l at *
      obtain ⟨bl, hbl⟩ : ∃ b, Op.bytesLess l.f0.toList n.f0.toList = b := ⟨_, rfl⟩
      have HF2 := Aside0.mk (show qA4 t n = (bl && bd) from by rw [HF.out, ← hbl]; rfl)
      have hrq : ∀ k, (Instr.lookup 93 (.map (some Bm)) (.string (upS n.f0)) false).run Tryd.prog (w1.drewN k) = .ok (.bool bd) (w1.drewN k) := fun k => by
        rw [← HDb.out]
        exact qGz (qBd HM.out (qAa HB.out k)) HD.out _ (Nat.le_trans (qGo (qBm HU.out.2.2)) (by decide))
      cases bl with
      | false =>
        go_wp2_with fail
        go_quiet (fail)
        go_wp2_with fail
        go_ret
        rw [HF2.out]
        exact ⟨rfl, qAa HB.out _⟩
      | true =>
        go_wp2_with fail
        go_quiet (fail)
        go_wp2_with fail
        go_ret
        rw [HF2.out]
        exact ⟨rfl, qAa HB.out _⟩
end Go.Proofs.YtdijnmcfpbceaaaDoor.X

namespace Go.Proofs.YtdijnmcfpbceaaaDoor.X
open Go.Maps Go.WideMaps Go.RowKit Go.Proofs.YtdijnmcfpbceaaaDoorW.PrintWords Go.Proofs.YtdijnmcfpbceaaaDoorW.PrintLast Go.Proofs.YtdijnmcfpbceaaaDoorW.PrintMore Go.Proofs.YtdijnmcfpbceaaaDoor.P
set_option linter.unusedVariables false
set_option linter.unusedSimpArgs false
theorem qGp {l : List S29} {x : S29} (h : risN l) (hf : qA4 l x = true) : risN (l ++ [x]) ∧ ∀ y ∈ l, ltB y.f0 x.f0 = true := by
  have hall : ∀ y ∈ l, ltB y.f0 x.f0 = true := by
    unfold qA4 at hf
    cases hl : l.getLast? with
    | none =>
      rw [List.getLast?_eq_none_iff.1 hl]
      intro y hy
      cases hy
    | some z =>
      rw [hl] at hf
      have hz : ltB z.f0 x.f0 = true := by
        have hf : (decide (x.f0.size ≠ 0) && pathB x.f0.data.toList && ltB z.f0 x.f0 && dirAt l (upS x.f0)) = true := hf
        rw [Bool.and_eq_true, Bool.and_eq_true] at hf
        exact hf.1.2
      obtain ⟨ys, rfl⟩ := List.getLast?_eq_some_iff.1 hl
      intro y hy
      rcases List.mem_append.1 hy with h1 | h1
      · exact qF8 ((List.pairwise_append.1 h).2.2 y h1 z (by simp)) hz
      · rw [List.mem_singleton] at h1
        rw [h1]
        exact hz
  refine ⟨?_, hall⟩
  unfold risN
  rw [List.pairwise_append]
  refine ⟨h, List.pairwise_singleton _ _, fun a ha b hb => ?_⟩
  rw [List.mem_singleton] at hb
  rw [hb]
  exact hall a ha
theorem qFo (l : List S29) (x : S29) (p : ByteArray) : dirAt (l ++ [x]) p = (dirAt l p || (decide (x.f0 = p) && decide (x.f1 = 1))) := by
  unfold dirAt
  rw [List.any_append]
  simp
theorem qFp {l : List S29} {p : ByteArray} (h : ∀ y ∈ l, ltB y.f0 p = true) : dirAt l p = false := by
  unfold dirAt
  rw [List.any_eq_false]
  intro y hy
  have h1 := h y hy
  have : y.f0 ≠ p := fun e => by
    rw [e, qFl] at h1
    cases h1
  simp [this]
set_option maxHeartbeats 8000000 in
set_option maxRecDepth 100000 in
theorem qGl (A0 : Option Addr) (c0 : Nat) (t : List S29) (w : World) (hT : Aside0 (Tabs w)) (hC : Kd.C k29 w A0 t.length t) (hc : t.length ≤ c0) (hn : t.length ≤ 100000) :
    Calls Tryd.prog 33 #[.slice A0 t.length c0] w fun e w' => ∃ r : Int, e = .returned (.int .i64 r) ∧ decide (r < 0) = treeB t ∧ Below w.heap.size w w' := by
  have X := Aside0.mk hC
  clear hC
  go_enter Tryd.func33, Tryd.ntmps33
  by_cases h0 : t.length = 0
  · have ht : t = [] := List.eq_nil_of_length_eq_zero h0
    have h00 : ((t.length : Int) == 0) = true := by rw [h0]; rfl
    have HF := Aside0.mk (show treeB t = false from by rw [ht]; rfl)
    clear ht
    go_wp2_with fail
    go_ret
    exact ⟨0, rfl, by rw [HF.out]; rfl, Below.refl _ _⟩
  · have h00 : ((t.length : Int) == 0) = false := beq_eq_false_iff_ne.2 (by omega)
    have hmm := @run_makeMap Tryd.prog
    have HM0 := Aside0.mk (show (w.alloc (.map #[] 0)).ownsMap Tryd.prog 9 (plainElem Tryd.prog 4) w.heap.size 0 (.map [] : DataW Unit) from World.ownsMap_made w Tryd.prog 9 _)
    have HB0 := Aside0.mk (show Below w.heap.size w (w.alloc (.map #[] 0)) from qAb (Below.refl _ _) _)
    go_wp2_with fail
    clear hmm
    generalize w.alloc (.map #[] 0) = w0 at *
    go_loopw [12] (fun v12 wr => ∃ (i : Nat) (D : DataW Unit), v12 = .int .i64 i ∧ i ≤ t.length ∧ Aside0 (wr.ownsMap Tryd.prog 9 (plainElem Tryd.prog 4) w.heap.size i D) ∧ Aside0 (∀ p : ByteArray, D.atKey (.string p.data.toList) (.lit (.bool false)) = .lit (.bool (dirAt (t.take i) p))) ∧ Aside0 (risN (t.take i)) ∧ Aside0 (treeB t = treeR (t.take i) (t.drop i)) ∧ Aside0 (Below w.heap.size w wr)) (fun a _ => t.length - (intOf a).toNat)
    case atStart => exact ⟨0, _, rfl, by omega, HM0, ⟨fun p => rfl⟩, ⟨List.Pairwise.nil⟩, ⟨by unfold treeB; cases t with | nil => exact absurd rfl h0 | cons a l => simp⟩, HB0⟩
    case round =>
      clear HM0 HB0
      obtain ⟨i, D, rfl, hi, HM, HD, HR, HT, HB⟩ := hrel
      by_cases hil : i < t.length
      · have hic : decide ((i : Int) < (t.length : Int)) = true := decide_eq_true (by omega)
        have hi0 : 0 ≤ (i : Int) := by omega
        obtain ⟨ad, rfl, z0, z1, z2⟩ := at_T29 (Kd.C_below X.out HB.out) (i : Int) (by omega) (by omega)
        simp only [Int.toNat_natCast] at z0 z1 z2
        have HX := Aside0.mk (qC9 t i hil)
        generalize rd_T29 t (i : Int) = x at *
        have HLT := Aside0.mk HM.out.lt
        go_wp2_with fail
        have HN := Aside0.mk (qB0 wr (.cells #[.string x.f0, .int .i64 x.f1, .string x.f2] 29))
        have HW6 := Aside0.mk (qAb (Below.refl wr.heap.size wr) (.cells #[.string x.f0, .int .i64 x.f1, .string x.f2] 29))
        have HB6 := Aside0.mk (qAe HB.out HW6.out)
        have HM6 := Aside0.mk (qBd HM.out HW6.out)
        have HTR := Aside0.mk (HT.out.trans (qFc t i hil))
        clear HB HM HW6 HT
        generalize wr.alloc (.cells #[.string x.f0, .int .i64 x.f1, .string x.f2] 29) = W6 at *
        generalize wr.heap.size = gn at *
        rw [← HX.out] at HTR
        obtain ⟨b400, h400⟩ : ∃ b, decide ((400 : Int) ≤ (i : Int)) = b := ⟨_, rfl⟩
        obtain ⟨bg, hbg⟩ : ∃ b, goodN x = b := ⟨_, rfl⟩
        obtain ⟨bf, hbf⟩ : ∃ b, qA4 (t.take i) x = b := ⟨_, rfl⟩
        have HGood := Aside0.mk (show ∀ W, Below W6.heap.size W6 W → Calls Tryd.prog 54 #[.agg #[.string x.f0, .int .i64 x.f1, .string x.f2]] W (fun e w' => e = .returned (.bool bg) ∧ Below W.heap.size W w') from fun W hW => tree_Good.calls 3 x.f0 x.f1 x.f2 bg W ⟨Tabs.below hT.out (qAe HB6.out hW)⟩ (by rw [qHq, hbg]))
        have hlen : (t.take i).length = i := by rw [List.length_take]; omega
        have HFol := Aside0.mk (show ∀ W, Below W6.heap.size W6 W → Calls Tryd.prog 55 #[.agg #[.string x.f0, .int .i64 x.f1, .string x.f2], .slice (some ad) i c0, .map (some w.heap.size)] W (fun e w' => e = .returned (.bool bf) ∧ Below W.heap.size W w') from fun W hW => by
          have hcall := qD2 x (some ad) c0 (t.take i) w.heap.size i D W ⟨Tabs.below hT.out (qAe HB6.out hW)⟩ (Kd.C_take (Kd.C_below X.out (qAe HB6.out hW)) (by omega)) (by omega) (by omega) (qBd HM6.out hW) HD.out
          rw [hlen, hbf] at hcall
          exact hcall)
        rw [hbg, hbf] at HTR
        have HFx := Aside0.mk hbf
        have HGx := Aside0.mk hbg
        clear hbg hbf hlen
        have hicn : i ≤ c0 := by omega
        have hicc : decide ((i : Int) ≤ (c0 : Int)) = true := decide_eq_true (by omega)
        cases b400 with
        | true =>
          have HF := Aside0.mk (show treeB t = false from by
            have : ¬ i < 400 := by have := of_decide_eq_true h400; omega
            rw [HTR.out, decide_eq_false this]
            rfl)
          go_quiet (fail)
          go_wp2_with fail
          go_ret
          exact ⟨i, rfl, by rw [HF.out]; exact decide_eq_false (by omega), qAa HB6.out _⟩
        | false =>
          cases bg with
          | false =>
            have HF := Aside0.mk (show treeB t = false from by
              rw [HTR.out, Bool.and_false, Bool.false_and, Bool.false_and])
            refine start_ (n := 16) (S := fun w' => Below W6.heap.size W6 w') (ds := []) (bmG 16 0) (by kernel_rfl) rfl (by kernel_rfl) (qAc (Below.refl W6.heap.size W6)) (fun hS => ?_)
            generalize W6.drew = wd at hS ⊢
            refine pure_ (i := 0) (N := some 17) (v := ?_) (a' := ?_) (bmG 16 1) rfl rfl (by kernel_rfl) (fun _ _ _ h => h) (Or.inl ⟨by rfl, ?_⟩) ?_ ?_
            rotate_left
            · intro w'
              go_simp
              (try simp only [h400])
              with_reducible rfl
            rotate_left
            · simp only [Act.put, List.setIfInBounds_toArray, List.set_cons_zero, List.set_cons_succ, i64_w, i32_w]
              rfl
            refine pure_ (i := 1) (N := some 18) (v := .bool false) (a' := ?_) (bmG 16 3) rfl rfl (by kernel_rfl) (fun _ _ _ h => h) (Or.inl ⟨by rfl, ?_⟩) ?_ ?_
            · intro w'
              go_simp
              (try simp only [h400])
              (try rfl)
            rotate_left
            · simp only [Act.put, List.setIfInBounds_toArray, List.set_cons_zero, List.set_cons_succ, i64_w, i32_w]
              rfl
            refine pure_ (i := 2) (N := some 19) (v := ?_) (a' := ?_) (bmG 16 7) rfl rfl (by kernel_rfl) (fun _ _ _ h => h) (Or.inl ⟨by rfl, ?_⟩) ?_ ?_
            rotate_left
            · intro w'
              go_simp
              (try simp only [h400])
              with_reducible rfl
            rotate_left
            · simp only [Act.put, List.setIfInBounds_toArray, List.set_cons_zero, List.set_cons_succ, i64_w, i32_w]
              rfl
            refine take_ (i := 3) (N := some 20) (v := ?_) (a' := ?_) (bmG 16 15) rfl rfl (by kernel_rfl) (fun _ _ _ h => h) (Or.inl ⟨by rfl, ?_⟩) hS ?_ ?_
            rotate_left
            · intro w' hS
              have s0 := (show w'.cell? ⟨gn, 0, none⟩ = some (.string x.f0) from (qAd (qAg HN.out hS) 0).trans rfl)
              have s1 := (show w'.cell? ⟨gn, 1, none⟩ = some (.int .i64 x.f1) from (qAd (qAg HN.out hS) 1).trans rfl)
              have s2 := (show w'.cell? ⟨gn, 2, none⟩ = some (.string x.f2) from (qAd (qAg HN.out hS) 2).trans rfl)
              go_simp
              with_reducible rfl
            rotate_left
            · simp only [Act.put, List.setIfInBounds_toArray, List.set_cons_zero, List.set_cons_succ, i64_w, i32_w]
              rfl
            refine one_ (i := 4) (N := some 21) (bmG 16 31) rfl rfl (by kernel_rfl) (by decide) (fun Kz hKz => ?_)
            refine goes_ Tryd.func54 (by kernel_rfl) rfl #[.agg #[.string x.f0, .int .i64 x.f1, .string x.f2]] (by rfl) rfl rfl (by (try simp only [List.map_toArray, List.map_cons, List.map_nil]); first | done | rfl) ?_
            refine (HGood.out _ hS).mono ?_
            rintro e wc ⟨rfl, hb⟩
            refine ⟨_, rfl, ?_⟩
            refine hKz.out _ _ (qAe hS hb) (fun hS => ?_)
            clear hKz Kz
            refine norm_ (a' := ?_) ?_ ?_
            rotate_left
            · show Act.put _ (some 21) _ = _
              simp only [Act.put, List.setIfInBounds_toArray, List.set_cons_zero, List.set_cons_succ, i64_w, i32_w]
              rfl
            refine pure_ (i := 5) (N := some 22) (v := ?_) (a' := ?_) (bmG 16 63) rfl rfl (by kernel_rfl) (fun _ _ _ h => h) (Or.inl ⟨by rfl, ?_⟩) ?_ ?_
            rotate_left
            · intro w'
              go_simp
              (try simp only [h400])
              with_reducible rfl
            rotate_left
            · simp only [Act.put, List.setIfInBounds_toArray, List.set_cons_zero, List.set_cons_succ, i64_w, i32_w]
              rfl
            refine pure_ (i := 6) (N := some 23) (v := ?_) (a' := ?_) (bmG 16 127) rfl rfl (by kernel_rfl) (fun _ _ _ h => h) (Or.inl ⟨by rfl, ?_⟩) ?_ ?_
            rotate_left
            · intro w'
              go_simp
              (try simp only [h400])
              with_reducible rfl
            rotate_left
            · simp only [Act.put, List.setIfInBounds_toArray, List.set_cons_zero, List.set_cons_succ, i64_w, i32_w]
              rfl
            refine pure_ (i := 7) (N := some 24) (v := ?_) (a' := ?_) (bmG 16 255) rfl rfl (by kernel_rfl) (fun _ _ _ h => h) (Or.inl ⟨by rfl, ?_⟩) ?_ ?_
            rotate_left
            · intro w'
              go_simp
              (try simp only [h400])
              with_reducible rfl
            rotate_left
            · simp only [Act.put, List.setIfInBounds_toArray, List.set_cons_zero, List.set_cons_succ, i64_w, i32_w]
              rfl
            refine pure_ (i := 8) (N := some 25) (v := undef) (a' := ?_) (bmG 16 511) rfl rfl (by kernel_rfl) (fun _ _ _ h => h) (Or.inr ⟨by rfl, rfl⟩) ?_ ?_
            rotate_left
            · simp only [Act.put, List.setIfInBounds_toArray, List.set_cons_zero, List.set_cons_succ, i64_w, i32_w]
              rfl
            refine pure_ (i := 9) (N := some 26) (v := undef) (a' := ?_) (bmG 16 1023) rfl rfl (by kernel_rfl) (fun _ _ _ h => h) (Or.inr ⟨by rfl, rfl⟩) ?_ ?_
            rotate_left
            · simp only [Act.put, List.setIfInBounds_toArray, List.set_cons_zero, List.set_cons_succ, i64_w, i32_w]
              rfl
            refine pure_ (i := 10) (N := some 27) (v := undef) (a' := ?_) (bmG 16 2047) rfl rfl (by kernel_rfl) (fun _ _ _ h => h) (Or.inr ⟨by rfl, rfl⟩) ?_ ?_
            rotate_left
            · simp only [Act.put, List.setIfInBounds_toArray, List.set_cons_zero, List.set_cons_succ, i64_w, i32_w]
              rfl
            refine pure_ (i := 11) (N := some 28) (v := undef) (a' := ?_) (bmG 16 4095) rfl rfl (by kernel_rfl) (fun _ _ _ h => h) (Or.inr ⟨by rfl, rfl⟩) ?_ ?_
            rotate_left
            · simp only [Act.put, List.setIfInBounds_toArray, List.set_cons_zero, List.set_cons_succ, i64_w, i32_w]
              rfl
            refine pure_ (i := 12) (N := some 29) (v := undef) (a' := ?_) (bmG 16 8191) rfl rfl (by kernel_rfl) (fun _ _ _ h => h) (Or.inr ⟨by rfl, rfl⟩) ?_ ?_
            rotate_left
            · simp only [Act.put, List.setIfInBounds_toArray, List.set_cons_zero, List.set_cons_succ, i64_w, i32_w]
              rfl
            refine pure_ (i := 13) (N := some 30) (v := undef) (a' := ?_) (bmG 16 16383) rfl rfl (by kernel_rfl) (fun _ _ _ h => h) (Or.inr ⟨by rfl, rfl⟩) ?_ ?_
            rotate_left
            · simp only [Act.put, List.setIfInBounds_toArray, List.set_cons_zero, List.set_cons_succ, i64_w, i32_w]
              rfl
            refine pure_ (i := 14) (N := some 31) (v := undef) (a' := ?_) (bmG 16 32767) rfl rfl (by kernel_rfl) (fun _ _ _ h => h) (Or.inr ⟨by rfl, rfl⟩) ?_ ?_
            rotate_left
            · simp only [Act.put, List.setIfInBounds_toArray, List.set_cons_zero, List.set_cons_succ, i64_w, i32_w]
              rfl
            refine pure_ (i := 15) (N := some 32) (v := ?_) (a' := ?_) (bmG 16 65535) rfl rfl (by kernel_rfl) (fun _ _ _ h => h) (Or.inl ⟨by rfl, ?_⟩) ?_ ?_
            rotate_left
            · intro w'
              go_simp
              (try simp only [h400])
              with_reducible rfl
            rotate_left
            · simp only [Act.put, List.setIfInBounds_toArray, List.set_cons_zero, List.set_cons_succ, i64_w, i32_w]
              rfl
            refine done_ (by kernel_rfl) ?_
            go_wp2_with fail
            go_ret
            exact ⟨i, rfl, by rw [HF.out]; exact decide_eq_false (by omega), qAe HB6.out hS⟩
          | true =>
            cases bf with
            | false =>
              have HF := Aside0.mk (show treeB t = false from by
                rw [HTR.out, Bool.and_false, Bool.false_and])
              refine start_ (n := 16) (S := fun w' => Below W6.heap.size W6 w') (ds := []) (bmG 16 0) (by kernel_rfl) rfl (by kernel_rfl) (qAc (Below.refl W6.heap.size W6)) (fun hS => ?_)
              generalize W6.drew = wd at hS ⊢
              refine pure_ (i := 0) (N := some 17) (v := ?_) (a' := ?_) (bmG 16 1) rfl rfl (by kernel_rfl) (fun _ _ _ h => h) (Or.inl ⟨by rfl, ?_⟩) ?_ ?_
              rotate_left
              · intro w'
                go_simp
                (try simp only [h400])
                with_reducible rfl
              rotate_left
              · simp only [Act.put, List.setIfInBounds_toArray, List.set_cons_zero, List.set_cons_succ, i64_w, i32_w]
                rfl
              refine pure_ (i := 1) (N := some 18) (v := .bool false) (a' := ?_) (bmG 16 3) rfl rfl (by kernel_rfl) (fun _ _ _ h => h) (Or.inl ⟨by rfl, ?_⟩) ?_ ?_
              · intro w'
                go_simp
                (try simp only [h400])
                (try rfl)
              rotate_left
              · simp only [Act.put, List.setIfInBounds_toArray, List.set_cons_zero, List.set_cons_succ, i64_w, i32_w]
                rfl
              refine pure_ (i := 2) (N := some 19) (v := ?_) (a' := ?_) (bmG 16 7) rfl rfl (by kernel_rfl) (fun _ _ _ h => h) (Or.inl ⟨by rfl, ?_⟩) ?_ ?_
              rotate_left
              · intro w'
                go_simp
                (try simp only [h400])
                with_reducible rfl
              rotate_left
              · simp only [Act.put, List.setIfInBounds_toArray, List.set_cons_zero, List.set_cons_succ, i64_w, i32_w]
                rfl
              refine take_ (i := 3) (N := some 20) (v := ?_) (a' := ?_) (bmG 16 15) rfl rfl (by kernel_rfl) (fun _ _ _ h => h) (Or.inl ⟨by rfl, ?_⟩) hS ?_ ?_
              rotate_left
              · intro w' hS
                have s0 := (show w'.cell? ⟨gn, 0, none⟩ = some (.string x.f0) from (qAd (qAg HN.out hS) 0).trans rfl)
                have s1 := (show w'.cell? ⟨gn, 1, none⟩ = some (.int .i64 x.f1) from (qAd (qAg HN.out hS) 1).trans rfl)
                have s2 := (show w'.cell? ⟨gn, 2, none⟩ = some (.string x.f2) from (qAd (qAg HN.out hS) 2).trans rfl)
                go_simp
                with_reducible rfl
              rotate_left
              · simp only [Act.put, List.setIfInBounds_toArray, List.set_cons_zero, List.set_cons_succ, i64_w, i32_w]
                rfl
              refine one_ (i := 4) (N := some 21) (bmG 16 31) rfl rfl (by kernel_rfl) (by decide) (fun Kz hKz => ?_)
              refine goes_ Tryd.func54 (by kernel_rfl) rfl #[.agg #[.string x.f0, .int .i64 x.f1, .string x.f2]] (by rfl) rfl rfl (by (try simp only [List.map_toArray, List.map_cons, List.map_nil]); first | done | rfl) ?_
              refine (HGood.out _ hS).mono ?_
              rintro e wc ⟨rfl, hb⟩
              refine ⟨_, rfl, ?_⟩
              refine hKz.out _ _ (qAe hS hb) (fun hS => ?_)
              clear hKz Kz
              refine norm_ (a' := ?_) ?_ ?_
              rotate_left
              · show Act.put _ (some 21) _ = _
                simp only [Act.put, List.setIfInBounds_toArray, List.set_cons_zero, List.set_cons_succ, i64_w, i32_w]
                rfl
              refine pure_ (i := 5) (N := some 22) (v := ?_) (a' := ?_) (bmG 16 63) rfl rfl (by kernel_rfl) (fun _ _ _ h => h) (Or.inl ⟨by rfl, ?_⟩) ?_ ?_
              rotate_left
              · intro w'
                go_simp
                (try simp only [h400])
                with_reducible rfl
              rotate_left
              · simp only [Act.put, List.setIfInBounds_toArray, List.set_cons_zero, List.set_cons_succ, i64_w, i32_w]
                rfl
              refine pure_ (i := 6) (N := some 23) (v := ?_) (a' := ?_) (bmG 16 127) rfl rfl (by kernel_rfl) (fun _ _ _ h => h) (Or.inl ⟨by rfl, ?_⟩) ?_ ?_
              rotate_left
              · intro w'
                go_simp
                (try simp only [h400])
                with_reducible rfl
              rotate_left
              · simp only [Act.put, List.setIfInBounds_toArray, List.set_cons_zero, List.set_cons_succ, i64_w, i32_w]
                rfl
              refine pure_ (i := 7) (N := some 24) (v := ?_) (a' := ?_) (bmG 16 255) rfl rfl (by kernel_rfl) (fun _ _ _ h => h) (Or.inl ⟨by rfl, ?_⟩) ?_ ?_
              rotate_left
              · intro w'
                go_simp
                (try simp only [h400])
                with_reducible rfl
              rotate_left
              · simp only [Act.put, List.setIfInBounds_toArray, List.set_cons_zero, List.set_cons_succ, i64_w, i32_w]
                rfl
              refine take_ (i := 8) (N := some 25) (v := ?_) (a' := ?_) (bmG 16 511) rfl rfl (by kernel_rfl) (fun _ _ _ h => h) (Or.inl ⟨by rfl, ?_⟩) hS ?_ ?_
              rotate_left
              · intro w' hS
                have s0 := (show w'.cell? ⟨gn, 0, none⟩ = some (.string x.f0) from (qAd (qAg HN.out hS) 0).trans rfl)
                have s1 := (show w'.cell? ⟨gn, 1, none⟩ = some (.int .i64 x.f1) from (qAd (qAg HN.out hS) 1).trans rfl)
                have s2 := (show w'.cell? ⟨gn, 2, none⟩ = some (.string x.f2) from (qAd (qAg HN.out hS) 2).trans rfl)
                go_simp
                with_reducible rfl
              rotate_left
              · simp only [Act.put, List.setIfInBounds_toArray, List.set_cons_zero, List.set_cons_succ, i64_w, i32_w]
                rfl
              refine pure_ (i := 9) (N := some 26) (v := ?_) (a' := ?_) (bmG 16 1023) rfl rfl (by kernel_rfl) (fun _ _ _ h => h) (Or.inl ⟨by rfl, ?_⟩) ?_ ?_
              rotate_left
              · intro w'
                go_simp
                (try simp only [h400])
                with_reducible rfl
              rotate_left
              · simp only [Act.put, List.setIfInBounds_toArray, List.set_cons_zero, List.set_cons_succ, i64_w, i32_w]
                rfl
              refine pure_ (i := 10) (N := some 27) (v := ?_) (a' := ?_) (bmG 16 2047) rfl rfl (by kernel_rfl) (fun _ _ _ h => h) (Or.inl ⟨by rfl, ?_⟩) ?_ ?_
              rotate_left
              · intro w'
                go_simp
                (try simp only [h400])
                with_reducible rfl
              rotate_left
              · simp only [Act.put, List.setIfInBounds_toArray, List.set_cons_zero, List.set_cons_succ, i64_w, i32_w]
                rfl
              refine pure_ (i := 11) (N := some 28) (v := ?_) (a' := ?_) (bmG 16 4095) rfl rfl (by kernel_rfl) (fun _ _ _ h => h) (Or.inl ⟨by rfl, ?_⟩) ?_ ?_
              rotate_left
              · intro w'
                go_simp
                (try simp only [h400])
                with_reducible rfl
              rotate_left
              · simp only [Act.put, List.setIfInBounds_toArray, List.set_cons_zero, List.set_cons_succ, i64_w, i32_w]
                rfl
              refine pure_ (i := 12) (N := some 29) (v := ?_) (a' := ?_) (bmG 16 8191) rfl rfl (by kernel_rfl) (fun _ _ _ h => h) (Or.inl ⟨by rfl, ?_⟩) ?_ ?_
              rotate_left
              · intro w'
                go_simp
                (try simp only [h400])
                with_reducible rfl
              rotate_left
              · simp only [Act.put, List.setIfInBounds_toArray, List.set_cons_zero, List.set_cons_succ, i64_w, i32_w]
                rfl
              refine one_ (i := 13) (N := some 30) (bmG 16 16383) rfl rfl (by kernel_rfl) (by decide) (fun Kz hKz => ?_)
              refine goes_ Tryd.func55 (by kernel_rfl) rfl #[.agg #[.string x.f0, .int .i64 x.f1, .string x.f2], .slice (some ad) i c0, .map (some w.heap.size)] (by rfl) rfl rfl (by (try simp only [List.map_toArray, List.map_cons, List.map_nil]); first | done | rfl) ?_
              refine (HFol.out _ hS).mono ?_
              rintro e wc ⟨rfl, hb⟩
              refine ⟨_, rfl, ?_⟩
              refine hKz.out _ _ (qAe hS hb) (fun hS => ?_)
              clear hKz Kz
              refine norm_ (a' := ?_) ?_ ?_
              rotate_left
              · show Act.put _ (some 30) _ = _
                simp only [Act.put, List.setIfInBounds_toArray, List.set_cons_zero, List.set_cons_succ, i64_w, i32_w]
                rfl
              refine pure_ (i := 14) (N := some 31) (v := ?_) (a' := ?_) (bmG 16 32767) rfl rfl (by kernel_rfl) (fun _ _ _ h => h) (Or.inl ⟨by rfl, ?_⟩) ?_ ?_
              rotate_left
              · intro w'
                go_simp
                (try simp only [h400])
                with_reducible rfl
              rotate_left
              · simp only [Act.put, List.setIfInBounds_toArray, List.set_cons_zero, List.set_cons_succ, i64_w, i32_w]
                rfl
              refine pure_ (i := 15) (N := some 32) (v := ?_) (a' := ?_) (bmG 16 65535) rfl rfl (by kernel_rfl) (fun _ _ _ h => h) (Or.inl ⟨by rfl, ?_⟩) ?_ ?_
              rotate_left
              · intro w'
                go_simp
                (try simp only [h400])
                with_reducible rfl
              rotate_left
              · simp only [Act.put, List.setIfInBounds_toArray, List.set_cons_zero, List.set_cons_succ, i64_w, i32_w]
                rfl
              refine done_ (by kernel_rfl) ?_
              go_wp2_with fail
              go_ret
              exact ⟨i, rfl, by rw [HF.out]; exact decide_eq_false (by omega), qAe HB6.out hS⟩
            | true =>
              refine start_ (n := 16) (S := fun w' => Below W6.heap.size W6 w') (ds := []) (bmG 16 0) (by kernel_rfl) rfl (by kernel_rfl) (qAc (Below.refl W6.heap.size W6)) (fun hS => ?_)
              generalize W6.drew = wd at hS ⊢
              refine pure_ (i := 0) (N := some 17) (v := ?_) (a' := ?_) (bmG 16 1) rfl rfl (by kernel_rfl) (fun _ _ _ h => h) (Or.inl ⟨by rfl, ?_⟩) ?_ ?_
              rotate_left
              · intro w'
                go_simp
                (try simp only [h400])
                with_reducible rfl
              rotate_left
              · simp only [Act.put, List.setIfInBounds_toArray, List.set_cons_zero, List.set_cons_succ, i64_w, i32_w]
                rfl
              refine pure_ (i := 1) (N := some 18) (v := .bool false) (a' := ?_) (bmG 16 3) rfl rfl (by kernel_rfl) (fun _ _ _ h => h) (Or.inl ⟨by rfl, ?_⟩) ?_ ?_
              · intro w'
                go_simp
                (try simp only [h400])
                (try rfl)
              rotate_left
              · simp only [Act.put, List.setIfInBounds_toArray, List.set_cons_zero, List.set_cons_succ, i64_w, i32_w]
                rfl
              refine pure_ (i := 2) (N := some 19) (v := ?_) (a' := ?_) (bmG 16 7) rfl rfl (by kernel_rfl) (fun _ _ _ h => h) (Or.inl ⟨by rfl, ?_⟩) ?_ ?_
              rotate_left
              · intro w'
                go_simp
                (try simp only [h400])
                with_reducible rfl
              rotate_left
              · simp only [Act.put, List.setIfInBounds_toArray, List.set_cons_zero, List.set_cons_succ, i64_w, i32_w]
                rfl
              refine take_ (i := 3) (N := some 20) (v := ?_) (a' := ?_) (bmG 16 15) rfl rfl (by kernel_rfl) (fun _ _ _ h => h) (Or.inl ⟨by rfl, ?_⟩) hS ?_ ?_
              rotate_left
              · intro w' hS
                have s0 := (show w'.cell? ⟨gn, 0, none⟩ = some (.string x.f0) from (qAd (qAg HN.out hS) 0).trans rfl)
                have s1 := (show w'.cell? ⟨gn, 1, none⟩ = some (.int .i64 x.f1) from (qAd (qAg HN.out hS) 1).trans rfl)
                have s2 := (show w'.cell? ⟨gn, 2, none⟩ = some (.string x.f2) from (qAd (qAg HN.out hS) 2).trans rfl)
                go_simp
                with_reducible rfl
              rotate_left
              · simp only [Act.put, List.setIfInBounds_toArray, List.set_cons_zero, List.set_cons_succ, i64_w, i32_w]
                rfl
              refine one_ (i := 4) (N := some 21) (bmG 16 31) rfl rfl (by kernel_rfl) (by decide) (fun Kz hKz => ?_)
              refine goes_ Tryd.func54 (by kernel_rfl) rfl #[.agg #[.string x.f0, .int .i64 x.f1, .string x.f2]] (by rfl) rfl rfl (by (try simp only [List.map_toArray, List.map_cons, List.map_nil]); first | done | rfl) ?_
              refine (HGood.out _ hS).mono ?_
              rintro e wc ⟨rfl, hb⟩
              refine ⟨_, rfl, ?_⟩
              refine hKz.out _ _ (qAe hS hb) (fun hS => ?_)
              clear hKz Kz
              refine norm_ (a' := ?_) ?_ ?_
              rotate_left
              · show Act.put _ (some 21) _ = _
                simp only [Act.put, List.setIfInBounds_toArray, List.set_cons_zero, List.set_cons_succ, i64_w, i32_w]
                rfl
              refine pure_ (i := 5) (N := some 22) (v := ?_) (a' := ?_) (bmG 16 63) rfl rfl (by kernel_rfl) (fun _ _ _ h => h) (Or.inl ⟨by rfl, ?_⟩) ?_ ?_
              rotate_left
              · intro w'
                go_simp
                (try simp only [h400])
                with_reducible rfl
              rotate_left
              · simp only [Act.put, List.setIfInBounds_toArray, List.set_cons_zero, List.set_cons_succ, i64_w, i32_w]
                rfl
              refine pure_ (i := 6) (N := some 23) (v := ?_) (a' := ?_) (bmG 16 127) rfl rfl (by kernel_rfl) (fun _ _ _ h => h) (Or.inl ⟨by rfl, ?_⟩) ?_ ?_
              rotate_left
              · intro w'
                go_simp
                (try simp only [h400])
                with_reducible rfl
              rotate_left
              · simp only [Act.put, List.setIfInBounds_toArray, List.set_cons_zero, List.set_cons_succ, i64_w, i32_w]
                rfl
              refine pure_ (i := 7) (N := some 24) (v := ?_) (a' := ?_) (bmG 16 255) rfl rfl (by kernel_rfl) (fun _ _ _ h => h) (Or.inl ⟨by rfl, ?_⟩) ?_ ?_
              rotate_left
              · intro w'
                go_simp
                (try simp only [h400])
                with_reducible rfl
              rotate_left
              · simp only [Act.put, List.setIfInBounds_toArray, List.set_cons_zero, List.set_cons_succ, i64_w, i32_w]
                rfl
              refine take_ (i := 8) (N := some 25) (v := ?_) (a' := ?_) (bmG 16 511) rfl rfl (by kernel_rfl) (fun _ _ _ h => h) (Or.inl ⟨by rfl, ?_⟩) hS ?_ ?_
              rotate_left
              · intro w' hS
                have s0 := (show w'.cell? ⟨gn, 0, none⟩ = some (.string x.f0) from (qAd (qAg HN.out hS) 0).trans rfl)
                have s1 := (show w'.cell? ⟨gn, 1, none⟩ = some (.int .i64 x.f1) from (qAd (qAg HN.out hS) 1).trans rfl)
                have s2 := (show w'.cell? ⟨gn, 2, none⟩ = some (.string x.f2) from (qAd (qAg HN.out hS) 2).trans rfl)
                go_simp
                with_reducible rfl
              rotate_left
              · simp only [Act.put, List.setIfInBounds_toArray, List.set_cons_zero, List.set_cons_succ, i64_w, i32_w]
                rfl
              refine pure_ (i := 9) (N := some 26) (v := ?_) (a' := ?_) (bmG 16 1023) rfl rfl (by kernel_rfl) (fun _ _ _ h => h) (Or.inl ⟨by rfl, ?_⟩) ?_ ?_
              rotate_left
              · intro w'
                go_simp
                (try simp only [h400])
                with_reducible rfl
              rotate_left
              · simp only [Act.put, List.setIfInBounds_toArray, List.set_cons_zero, List.set_cons_succ, i64_w, i32_w]
                rfl
              refine pure_ (i := 10) (N := some 27) (v := ?_) (a' := ?_) (bmG 16 2047) rfl rfl (by kernel_rfl) (fun _ _ _ h => h) (Or.inl ⟨by rfl, ?_⟩) ?_ ?_
              rotate_left
              · intro w'
                go_simp
                (try simp only [h400])
                with_reducible rfl
              rotate_left
              · simp only [Act.put, List.setIfInBounds_toArray, List.set_cons_zero, List.set_cons_succ, i64_w, i32_w]
                rfl
              refine pure_ (i := 11) (N := some 28) (v := ?_) (a' := ?_) (bmG 16 4095) rfl rfl (by kernel_rfl) (fun _ _ _ h => h) (Or.inl ⟨by rfl, ?_⟩) ?_ ?_
              rotate_left
              · intro w'
                go_simp
                (try simp only [h400])
                with_reducible rfl
              rotate_left
              · simp only [Act.put, List.setIfInBounds_toArray, List.set_cons_zero, List.set_cons_succ, i64_w, i32_w]
                rfl
              refine pure_ (i := 12) (N := some 29) (v := ?_) (a' := ?_) (bmG 16 8191) rfl rfl (by kernel_rfl) (fun _ _ _ h => h) (Or.inl ⟨by rfl, ?_⟩) ?_ ?_
              rotate_left
              · intro w'
                go_simp
                (try simp only [h400])
                with_reducible rfl
              rotate_left
              · simp only [Act.put, List.setIfInBounds_toArray, List.set_cons_zero, List.set_cons_succ, i64_w, i32_w]
                rfl
              refine one_ (i := 13) (N := some 30) (bmG 16 16383) rfl rfl (by kernel_rfl) (by decide) (fun Kz hKz => ?_)
              refine goes_ Tryd.func55 (by kernel_rfl) rfl #[.agg #[.string x.f0, .int .i64 x.f1, .string x.f2], .slice (some ad) i c0, .map (some w.heap.size)] (by rfl) rfl rfl (by (try simp only [List.map_toArray, List.map_cons, List.map_nil]); first | done | rfl) ?_
              refine (HFol.out _ hS).mono ?_
              rintro e wc ⟨rfl, hb⟩
              refine ⟨_, rfl, ?_⟩
              refine hKz.out _ _ (qAe hS hb) (fun hS => ?_)
              clear hKz Kz
              refine norm_ (a' := ?_) ?_ ?_
              rotate_left
              · show Act.put _ (some 30) _ = _
                simp only [Act.put, List.setIfInBounds_toArray, List.set_cons_zero, List.set_cons_succ, i64_w, i32_w]
                rfl
              refine pure_ (i := 14) (N := some 31) (v := ?_) (a' := ?_) (bmG 16 32767) rfl rfl (by kernel_rfl) (fun _ _ _ h => h) (Or.inl ⟨by rfl, ?_⟩) ?_ ?_
              rotate_left
              · intro w'
                go_simp
                (try simp only [h400])
                with_reducible rfl
              rotate_left
              · simp only [Act.put, List.setIfInBounds_toArray, List.set_cons_zero, List.set_cons_succ, i64_w, i32_w]
                rfl
              refine pure_ (i := 15) (N := some 32) (v := ?_) (a' := ?_) (bmG 16 65535) rfl rfl (by kernel_rfl) (fun _ _ _ h => h) (Or.inl ⟨by rfl, ?_⟩) ?_ ?_
              rotate_left
              · intro w'
                go_simp
                (try simp only [h400])
                with_reducible rfl
              rotate_left
              · simp only [Act.put, List.setIfInBounds_toArray, List.set_cons_zero, List.set_cons_succ, i64_w, i32_w]
                rfl
              refine done_ (by kernel_rfl) ?_
              obtain ⟨hi4, hgx⟩ : i < 400 ∧ goodN x = true := by
                refine ⟨by have := of_decide_eq_false h400; omega, ?_⟩
                exact HGx.out
              have hps : x.f0.size ≤ 200 := qBm (by unfold goodN at hgx; rw [Bool.and_eq_true, Bool.and_eq_true] at hgx; exact hgx.1.1)
              have HB8 := Aside0.mk (qAe HB6.out hS)
              have HM8 := Aside0.mk (qBd HM6.out hS)
              obtain ⟨bk, hbk⟩ : ∃ b, (x.f1 == 1) = b := ⟨_, rfl⟩
              have hz0 := (show wc.cell? ⟨gn, 0, none⟩ = some (.string x.f0) from (qAd (qAg HN.out hS) 0).trans rfl)
              have hz1 := (show wc.cell? ⟨gn, 1, none⟩ = some (.int .i64 x.f1) from (qAd (qAg HN.out hS) 1).trans rfl)
              obtain ⟨hris, hall⟩ := qGp HR.out HFx.out
              have HRs := Aside0.mk hris
              have HAl := Aside0.mk hall
              have HT9 := Aside0.mk (show treeB t = treeR (t.take (i + 1)) (t.drop (i + 1)) from by rw [HTR.out, decide_eq_true hi4]; rfl)
              have htk := Aside0.mk (show t.take (i + 1) = t.take i ++ [x] from by rw [HX.out]; exact List.take_succ_eq_append_getElem hil)
              have HBK := Aside0.mk hbk
              clear hS hgx hris hall HGood HFol HTR HN HB6 HM6
              go_wp2_with (at_mapUpdate; refine wpList_mapUpdate_own _ rfl _ _ _ 93 rfl 9 4 keyS Tryd.underlying93 _ w.heap.size i D rfl HM8.out (by simp only [maxLen]; omega) _ _ (.string x.f0.data.toList) rfl rfl (keyOf_string_mk Tryd.underlying9 (by simp only [maxLen]; omega)) (.lit (.bool bk)) [] (plainElem_bool Tryd.underlying4 bk) ?_; intro w9 hm9 hg9; have HM9 := Aside0.mk hm9; have HB9 := Aside0.mk (belowG HB8.out hg9 (fun k hk => by cases hk; exact Nat.le_refl _)); clear hm9 hg9)
              refine ⟨⟨i + 1, _, by simp, by omega, HM9, ⟨fun p => ?_⟩, ⟨by rw [htk.out]; exact HRs.out⟩, HT9, HB9⟩, by simp [intOf]; omega⟩
              have hIM : IsMap D := let ⟨_, _, _, _, _, e⟩ := HM8.out; ⟨_, e⟩
              rw [htk.out, qFo]
              by_cases e : p = x.f0
              · rw [e, atKey_put_same (k := .string x.f0.data.toList) hIM (by exact trivial), qFp HAl.out, decide_eq_true (rfl : x.f0 = x.f0), ← HBK.out, Bool.false_or, Bool.true_and]
                congr 2
              · rw [atKey_put_other (fun h => e (qA6 (Lit.string.inj h))), HD.out p, decide_eq_false (fun h => e h.symm), Bool.false_and, Bool.or_false]
      · have hic : decide ((i : Int) < (t.length : Int)) = false := decide_eq_false (by omega)
        have hi2 : i = t.length := by omega
        have HF := Aside0.mk (show treeB t = true from by
          rw [HT.out, hi2, List.drop_length]
          cases t.take t.length <;> rfl)
        subst hi2
        clear HM HD HR HT hil hi
        go_wp2_with fail
        go_ret
        exact ⟨-1, rfl, by rw [HF.out]; rfl, HB.out⟩
theorem qBc (A0 : Option Addr) (c0 : Nat) (t : List S29) (w : World) (hT : Aside0 (Tabs w)) (hC : Kd.C k29 w A0 t.length t) (hc : t.length ≤ c0) (hn : t.length ≤ 100000) :
    Calls Tryd.prog 14 #[.slice A0 t.length c0] w fun e w' => e = .returned (.bool (treeB t)) ∧ Below w.heap.size w w' := by
  have X := Aside0.mk hC
  clear hC
  go_enter Tryd.func14, Tryd.ntmps14
  go_wp2_with fail
  refine (qGl A0 c0 t w hT X.out hc hn).mono ?_
  rintro e w1 ⟨r, rfl, hr, hb⟩
  have HB := Aside0.mk hb
  have HR := Aside0.mk hr
  clear hb hr
  go_wp2_with fail
  go_ret
  exact ⟨by rw [← HR.out]; rfl, HB.out⟩
end Go.Proofs.YtdijnmcfpbceaaaDoor.X

namespace Go.Proofs.YtdijnmcfpbceaaaDoor.P
open Go.Proofs.YtdijnmcfpbceaaaDoor.X
open Go.RowKit Go.Proofs.YtdijnmcfpbceaaaDoorW.PrintWords Go.Proofs.YtdijnmcfpbceaaaDoorW.PrintLast Go.Proofs.YtdijnmcfpbceaaaDoorW.PrintMore
attribute [local go_sem] qAt qAy
set_option linter.unusedVariables false
set_option linter.unusedSimpArgs false
def tar_name.f (a0_0 : ByteArray) (a0_1 : Int) (a0_2 : ByteArray) : Option (ByteArray) := if a0_0.toList = ([] : List UInt8) then (some (⟨#[46]⟩ : ByteArray)) else (some a0_0)
set_option maxHeartbeats 8000000 in
set_option maxRecDepth 100000 in
theorem tar_name.calls (a0_0 : ByteArray) (a0_1 : Int) (a0_2 : ByteArray) (r : ByteArray) (w : World) (h : tar_name.f a0_0 a0_1 a0_2 = some r) :
  Calls Tryd.prog 95 #[.agg #[.string a0_0, .int .i64 a0_1, .string a0_2]] w fun e w' => e = .returned (.string r) ∧ Below w.heap.size w w' := by
 have hu29 := Tryd.underlying29
 have HB := Aside0.mk (Below.refl w.heap.size w)
 have H : (if a0_0.toList = ([] : List UInt8) then (some (⟨#[46]⟩ : ByteArray)) else (some a0_0)) = some r := h
 clear h
 by_cases c2 : a0_0.toList = ([] : List UInt8)
 ·rw [if_pos c2] at H
  have c2b0 : (a0_0.toList == ([] : List UInt8)) = true := beq_iff_eq.mpr c2
  have c2b1 : (a0_0.toList != ([] : List UInt8)) = false := bne_eq_false_iff_eq.mpr c2
  clear c2
  obtain rfl := Option.some.inj H
  go_enter Tryd.func95, Tryd.ntmps95
  go_wp2_with (first | ((with_reducible refine qBe (N := 1) rfl ?_); refine qA7 ?hg (N := 1) ?hd (cs := #[.string a0_0, .int .i64 a0_1, .string a0_2]) (t := 29) ?hr ?_; (case hd => rfl); (case hg => rfl); (case hr => first | (go_simp; done) | (go_simp; rfl)); intro gb101 hg w3 hbox hb; have n0_ := Aside0.mk (qAe (by repeat (first | (with_reducible first | exact HB.out | apply qAb | apply qAa | apply qAc) | exact HB.out)) hb); have n1_ := Aside0.mk (hbox); have n2_ := Aside0.mk ((by rw [hg]; exact (qAm (by repeat (first | (with_reducible first | exact HB.out | apply qAb | apply qAa | apply qAc) | exact HB.out))) : w.heap.size ≤ gb101)); have n3_ := Aside0.mk ((by rw [hg]; exact (qAm (by repeat (first | (with_reducible first | exact HB.out | apply qAb | apply qAa | apply qAc) | exact HB.out))) : w.heap.size ≤ gb101)); clear HB; have HB := n0_; have BK101 := n1_; have GW101 := n2_; have GE101 := n3_; clear n0_ n1_ n2_ n3_; clear hb hbox hg; have hcz4_0 : w3.cell? ⟨gb101, 0, none⟩ = some (.string a0_0) := (qAd BK101.out 0).trans rfl; have hcz4_1 : w3.cell? ⟨gb101, 1, none⟩ = some (.int .i64 a0_1) := (qAd BK101.out 1).trans rfl; have hcz4_2 : w3.cell? ⟨gb101, 2, none⟩ = some (.string a0_2) := (qAd BK101.out 2).trans rfl; have hfz4_0 := qAf BK101.out 0; have hfz4_1 := qAf BK101.out 1; have hfz4_2 := qAf BK101.out 2))
  go_ret
  exact ⟨by first | rfl | (simp [qAi, qAh] <;> rfl) | (simp [*, qAi, qAh] <;> rfl), by repeat (first | (with_reducible first | exact HB.out | apply qAb | apply qAa | apply qAc | refine below_set ?_ GE101.out) | exact HB.out)⟩
 ·rw [if_neg c2] at H
  have c2b0 : (a0_0.toList == ([] : List UInt8)) = false := beq_eq_false_iff_ne.mpr c2
  have c2b1 : (a0_0.toList != ([] : List UInt8)) = true := bne_iff_ne.mpr c2
  obtain rfl := Option.some.inj H
  go_enter Tryd.func95, Tryd.ntmps95
  go_wp2_with (first | ((with_reducible refine qBe (N := 1) rfl ?_); refine qA7 ?hg (N := 1) ?hd (cs := #[.string a0_0, .int .i64 a0_1, .string a0_2]) (t := 29) ?hr ?_; (case hd => rfl); (case hg => rfl); (case hr => first | (go_simp; done) | (go_simp; rfl)); intro gb101 hg w5 hbox hb; have n0_ := Aside0.mk (qAe (by repeat (first | (with_reducible first | exact HB.out | apply qAb | apply qAa | apply qAc) | exact HB.out)) hb); have n1_ := Aside0.mk (hbox); have n2_ := Aside0.mk ((by rw [hg]; exact (qAm (by repeat (first | (with_reducible first | exact HB.out | apply qAb | apply qAa | apply qAc) | exact HB.out))) : w.heap.size ≤ gb101)); have n3_ := Aside0.mk ((by rw [hg]; exact (qAm (by repeat (first | (with_reducible first | exact HB.out | apply qAb | apply qAa | apply qAc) | exact HB.out))) : w.heap.size ≤ gb101)); clear HB; have HB := n0_; have BK101 := n1_; have GW101 := n2_; have GE101 := n3_; clear n0_ n1_ n2_ n3_; clear hb hbox hg; have hcz6_0 : w5.cell? ⟨gb101, 0, none⟩ = some (.string a0_0) := (qAd BK101.out 0).trans rfl; have hcz6_1 : w5.cell? ⟨gb101, 1, none⟩ = some (.int .i64 a0_1) := (qAd BK101.out 1).trans rfl; have hcz6_2 : w5.cell? ⟨gb101, 2, none⟩ = some (.string a0_2) := (qAd BK101.out 2).trans rfl; have hfz6_0 := qAf BK101.out 0; have hfz6_1 := qAf BK101.out 1; have hfz6_2 := qAf BK101.out 2))
  go_ret
  exact ⟨by first | rfl | (simp [qAi, qAh] <;> rfl) | (simp [*, qAi, qAh] <;> rfl), by repeat (first | (with_reducible first | exact HB.out | apply qAb | apply qAa | apply qAc | refine below_set ?_ GE101.out) | exact HB.out)⟩
end Go.Proofs.YtdijnmcfpbceaaaDoor.P

namespace Go.Proofs.YtdijnmcfpbceaaaDoor.P
open Go.Proofs.YtdijnmcfpbceaaaDoor.X
open Go.RowKit Go.Proofs.YtdijnmcfpbceaaaDoorW.PrintWords Go.Proofs.YtdijnmcfpbceaaaDoorW.PrintLast Go.Proofs.YtdijnmcfpbceaaaDoorW.PrintMore
attribute [local go_sem] qAt qAy
set_option linter.unusedVariables false
set_option linter.unusedSimpArgs false
def tar_extra.f (a0_0 : ByteArray) (a0_1 : Int) (a0_2 : ByteArray) : Option (ByteArray) := (tar_name.f a0_0 a0_1 a0_2).bind fun t103 => (if (t103.size : Int) > 100 then ((tar_Record.f (⟨#[112, 97, 116, 104]⟩ : ByteArray) t103).bind fun t104 => (if 0 + t104.size ≤ 9223372036854775807 then (if a0_1 = 4 then (if (a0_2.size : Int) > 100 then ((tar_Record.f (⟨#[108, 105, 110, 107, 112, 97, 116, 104]⟩ : ByteArray) a0_2).bind fun t105 => (if ((⟨#[]⟩ : ByteArray) ++ t104).size + t105.size ≤ 9223372036854775807 then (some (((⟨#[]⟩ : ByteArray) ++ t104) ++ t105)) else (none))) else (some ((⟨#[]⟩ : ByteArray) ++ t104))) else (some ((⟨#[]⟩ : ByteArray) ++ t104))) else (none))) else (if a0_1 = 4 then (if (a0_2.size : Int) > 100 then ((tar_Record.f (⟨#[108, 105, 110, 107, 112, 97, 116, 104]⟩ : ByteArray) a0_2).bind fun t106 => (if 0 + t106.size ≤ 9223372036854775807 then (some ((⟨#[]⟩ : ByteArray) ++ t106)) else (none))) else (some (⟨#[]⟩ : ByteArray))) else (some (⟨#[]⟩ : ByteArray))))
set_option maxHeartbeats 8000000 in
set_option maxRecDepth 100000 in
theorem tar_extra.calls (a0_0 : ByteArray) (a0_1 : Int) (a0_2 : ByteArray) (r : ByteArray) (w : World) (hT : Aside0 (Tabs w)) (h : tar_extra.f a0_0 a0_1 a0_2 = some r) :
  Calls Tryd.prog 92 #[.agg #[.string a0_0, .int .i64 a0_1, .string a0_2]] w fun e w' => e = .returned (.string r) ∧ Below w.heap.size w w' := by
 have hu29 := Tryd.underlying29
 have HB := Aside0.mk (Below.refl w.heap.size w)
 have H : ((tar_name.f a0_0 a0_1 a0_2).bind fun t103 => (if (t103.size : Int) > 100 then ((tar_Record.f (⟨#[112, 97, 116, 104]⟩ : ByteArray) t103).bind fun t104 => (if 0 + t104.size ≤ 9223372036854775807 then (if a0_1 = 4 then (if (a0_2.size : Int) > 100 then ((tar_Record.f (⟨#[108, 105, 110, 107, 112, 97, 116, 104]⟩ : ByteArray) a0_2).bind fun t105 => (if ((⟨#[]⟩ : ByteArray) ++ t104).size + t105.size ≤ 9223372036854775807 then (some (((⟨#[]⟩ : ByteArray) ++ t104) ++ t105)) else (none))) else (some ((⟨#[]⟩ : ByteArray) ++ t104))) else (some ((⟨#[]⟩ : ByteArray) ++ t104))) else (none))) else (if a0_1 = 4 then (if (a0_2.size : Int) > 100 then ((tar_Record.f (⟨#[108, 105, 110, 107, 112, 97, 116, 104]⟩ : ByteArray) a0_2).bind fun t106 => (if 0 + t106.size ≤ 9223372036854775807 then (some ((⟨#[]⟩ : ByteArray) ++ t106)) else (none))) else (some (⟨#[]⟩ : ByteArray))) else (some (⟨#[]⟩ : ByteArray))))) = some r := h
 clear h
 replace H := Option.bind_eq_some_iff.mp H
 obtain ⟨t103, A20, H⟩ := H
 replace H : (if (t103.size : Int) > 100 then ((tar_Record.f (⟨#[112, 97, 116, 104]⟩ : ByteArray) t103).bind fun t104 => (if 0 + t104.size ≤ 9223372036854775807 then (if a0_1 = 4 then (if (a0_2.size : Int) > 100 then ((tar_Record.f (⟨#[108, 105, 110, 107, 112, 97, 116, 104]⟩ : ByteArray) a0_2).bind fun t105 => (if ((⟨#[]⟩ : ByteArray) ++ t104).size + t105.size ≤ 9223372036854775807 then (some (((⟨#[]⟩ : ByteArray) ++ t104) ++ t105)) else (none))) else (some ((⟨#[]⟩ : ByteArray) ++ t104))) else (some ((⟨#[]⟩ : ByteArray) ++ t104))) else (none))) else (if a0_1 = 4 then (if (a0_2.size : Int) > 100 then ((tar_Record.f (⟨#[108, 105, 110, 107, 112, 97, 116, 104]⟩ : ByteArray) a0_2).bind fun t106 => (if 0 + t106.size ≤ 9223372036854775807 then (some ((⟨#[]⟩ : ByteArray) ++ t106)) else (none))) else (some (⟨#[]⟩ : ByteArray))) else (some (⟨#[]⟩ : ByteArray)))) = some r := H
 have A2 := Aside0.mk A20
 clear A20
 by_cases c3 : (t103.size : Int) > 100
 ·rw [if_pos c3] at H
  have c3b0 : decide (100 < (t103.size : Int)) = true := decide_eq_true c3
  have c3b1 : decide (100 < t103.size) = true := decide_eq_true (by omega)
  clear c3
  replace H := Option.bind_eq_some_iff.mp H
  obtain ⟨t104, A40, H⟩ := H
  replace H : (if 0 + t104.size ≤ 9223372036854775807 then (if a0_1 = 4 then (if (a0_2.size : Int) > 100 then ((tar_Record.f (⟨#[108, 105, 110, 107, 112, 97, 116, 104]⟩ : ByteArray) a0_2).bind fun t105 => (if ((⟨#[]⟩ : ByteArray) ++ t104).size + t105.size ≤ 9223372036854775807 then (some (((⟨#[]⟩ : ByteArray) ++ t104) ++ t105)) else (none))) else (some ((⟨#[]⟩ : ByteArray) ++ t104))) else (some ((⟨#[]⟩ : ByteArray) ++ t104))) else (none)) = some r := H
  have A4 := Aside0.mk A40
  clear A40
  by_cases c5 : 0 + t104.size ≤ 9223372036854775807
  ·rw [if_pos c5] at H
   have c5b0 := eq_true c5
   have c5b1 : decide (0 + t104.size ≤ 9223372036854775807) = true := decide_eq_true c5
   try have c5b2 : (9223372036854775807 < 0 + t104.size) = False := eq_false (Nat.not_lt.2 c5)
   have Sc5 := Aside0.mk c5
   clear c5
   by_cases c6 : a0_1 = 4
   ·rw [if_pos c6] at H
    have c6b0 : (a0_1 == 4) = true := beq_iff_eq.mpr c6
    have c6b1 : (a0_1 != 4) = false := bne_eq_false_iff_eq.mpr c6
    clear c6
    by_cases c7 : (a0_2.size : Int) > 100
    ·rw [if_pos c7] at H
     have c7b0 : decide (100 < (a0_2.size : Int)) = true := decide_eq_true c7
     have c7b1 : decide (100 < a0_2.size) = true := decide_eq_true (by omega)
     clear c7
     replace H := Option.bind_eq_some_iff.mp H
     obtain ⟨t105, A80, H⟩ := H
     replace H : (if ((⟨#[]⟩ : ByteArray) ++ t104).size + t105.size ≤ 9223372036854775807 then (some (((⟨#[]⟩ : ByteArray) ++ t104) ++ t105)) else (none)) = some r := H
     have A8 := Aside0.mk A80
     clear A80
     by_cases c9 : ((⟨#[]⟩ : ByteArray) ++ t104).size + t105.size ≤ 9223372036854775807
     ·rw [if_pos c9] at H
      have c9b0 := eq_true c9
      have c9b1 : decide (((⟨#[]⟩ : ByteArray) ++ t104).size + t105.size ≤ 9223372036854775807) = true := decide_eq_true c9
      try have c9b2 : (9223372036854775807 < ((⟨#[]⟩ : ByteArray) ++ t104).size + t105.size) = False := eq_false (Nat.not_lt.2 c9)
      have Sc9 := Aside0.mk c9
      clear c9
      obtain rfl := Option.some.inj H
      go_enter Tryd.func92, Tryd.ntmps92
      go_wp2_with (first | ((with_reducible refine qBe (N := 1) rfl ?_); (try (refine qA8 (by rfl) ?_; dsimp only)); refine qA7 ?hg (N := 1) ?hd (cs := #[.string a0_0, .int .i64 a0_1, .string a0_2]) (t := 29) ?hr ?_; (case hd => rfl); (case hg => rfl); (case hr => first | (go_simp; done) | (go_simp; rfl)); intro gb102 hg w10 hbox hb; have n0_ := Aside0.mk (qAe (by repeat (first | (with_reducible first | exact HB.out | apply qAb | apply qAa | apply qAc) | exact HB.out)) hb); have n1_ := Aside0.mk (hbox); have n2_ := Aside0.mk ((by rw [hg]; exact (qAm (by repeat (first | (with_reducible first | exact HB.out | apply qAb | apply qAa | apply qAc) | exact HB.out))) : w.heap.size ≤ gb102)); have n3_ := Aside0.mk ((by rw [hg]; exact (qAm (by repeat (first | (with_reducible first | exact HB.out | apply qAb | apply qAa | apply qAc) | exact HB.out))) : w.heap.size ≤ gb102)); clear HB; have HB := n0_; have BK102 := n1_; have GW102 := n2_; have GE102 := n3_; clear n0_ n1_ n2_ n3_; clear hb hbox hg; have hcz11_0 : w10.cell? ⟨gb102, 0, none⟩ = some (.string a0_0) := (qAd BK102.out 0).trans rfl; have hcz11_1 : w10.cell? ⟨gb102, 1, none⟩ = some (.int .i64 a0_1) := (qAd BK102.out 1).trans rfl; have hcz11_2 : w10.cell? ⟨gb102, 2, none⟩ = some (.string a0_2) := (qAd BK102.out 2).trans rfl; have hfz11_0 := qAf BK102.out 0; have hfz11_1 := qAf BK102.out 1; have hfz11_2 := qAf BK102.out 2) | ((with_reducible refine qAp (f := 95) rfl ?_); refine goesL_ (some 6) rfl rfl Tryd.func95 (by kernel_rfl) rfl #[.agg #[.string a0_0, .int .i64 a0_1, .string a0_2]] rfl (by (try simp only [List.map_toArray, List.map_cons, List.map_nil]); first | done | rfl | (simp only [List.length_drop, List.length_take]; rfl)) ?_; (with_reducible refine (tar_name.calls a0_0 a0_1 a0_2 t103 _ A2.out).mono ?_); rintro e w12 ⟨rfl, hb⟩; refine ⟨_, rfl, ?_⟩; have n0_ := Aside0.mk (qAg (g := gb102) (o := .cells #[.string a0_0, .int .i64 a0_1, .string a0_2] 29 (0, 0)) (by (with_reducible repeat (first | refine blk_drewN ?_ _ | refine blk_drew ?_ | refine blk_alloc ?_ _)); exact BK102.out) hb); have n1_ := Aside0.mk (qAe (by repeat (first | (with_reducible first | exact HB.out | apply qAb | apply qAa | apply qAc | refine below_set ?_ GE102.out) | exact HB.out)) hb); clear BK102; clear HB; have BK102 := n0_; have HB := n1_; clear n0_ n1_; (try clear hb); (try clear hb2); (try clear hk); (try clear hi)) | ((with_reducible refine qAp (f := 12) rfl ?_); refine goesL_ (some 12) rfl rfl Tryd.func12 (by kernel_rfl) rfl #[.string (⟨#[112, 97, 116, 104]⟩ : ByteArray), .string t103] rfl (by (try simp only [List.map_toArray, List.map_cons, List.map_nil]); first | done | rfl | (simp only [List.length_drop, List.length_take]; rfl)) ?_; (with_reducible refine (tar_Record.calls (⟨#[112, 97, 116, 104]⟩ : ByteArray) t103 t104 _ ?side1 A4.out).mono ?_); (case side1 => exact ⟨Tabs.below hT.out (by repeat (first | (with_reducible first | exact HB.out | apply qAb | apply qAa | apply qAc | refine below_set ?_ GE102.out) | exact HB.out))⟩); rintro e w13 ⟨rfl, hb⟩; refine ⟨_, rfl, ?_⟩; have n0_ := Aside0.mk (qAg (g := gb102) (o := .cells #[.string a0_0, .int .i64 a0_1, .string a0_2] 29 (0, 0)) (by (with_reducible repeat (first | refine blk_drewN ?_ _ | refine blk_drew ?_ | refine blk_alloc ?_ _)); exact BK102.out) hb); have n1_ := Aside0.mk (qAe (by repeat (first | (with_reducible first | exact HB.out | apply qAb | apply qAa | apply qAc | refine below_set ?_ GE102.out) | exact HB.out)) hb); clear BK102; clear HB; have BK102 := n0_; have HB := n1_; clear n0_ n1_; (try clear hb); (try clear hb2); (try clear hk); (try clear hi); have hcz14_0 : w13.cell? ⟨gb102, 0, none⟩ = some (.string a0_0) := (qAd BK102.out 0).trans rfl; have hcz14_1 : w13.cell? ⟨gb102, 1, none⟩ = some (.int .i64 a0_1) := (qAd BK102.out 1).trans rfl; have hcz14_2 : w13.cell? ⟨gb102, 2, none⟩ = some (.string a0_2) := (qAd BK102.out 2).trans rfl; have hfz14_0 := qAf BK102.out 0; have hfz14_1 := qAf BK102.out 1; have hfz14_2 := qAf BK102.out 2) | ((with_reducible refine qAp (f := 12) rfl ?_); refine goesL_ (some 26) rfl rfl Tryd.func12 (by kernel_rfl) rfl #[.string (⟨#[108, 105, 110, 107, 112, 97, 116, 104]⟩ : ByteArray), .string a0_2] rfl (by (try simp only [List.map_toArray, List.map_cons, List.map_nil]); first | done | rfl | (simp only [List.length_drop, List.length_take]; rfl)) ?_; (with_reducible refine (tar_Record.calls (⟨#[108, 105, 110, 107, 112, 97, 116, 104]⟩ : ByteArray) a0_2 t105 _ ?side1 A8.out).mono ?_); (case side1 => exact ⟨Tabs.below hT.out (by repeat (first | (with_reducible first | exact HB.out | apply qAb | apply qAa | apply qAc | refine below_set ?_ GE102.out) | exact HB.out))⟩); rintro e w15 ⟨rfl, hb⟩; refine ⟨_, rfl, ?_⟩; have n0_ := Aside0.mk (qAg (g := gb102) (o := .cells #[.string a0_0, .int .i64 a0_1, .string a0_2] 29 (0, 0)) (by (with_reducible repeat (first | refine blk_drewN ?_ _ | refine blk_drew ?_ | refine blk_alloc ?_ _)); exact BK102.out) hb); have n1_ := Aside0.mk (qAe (by repeat (first | (with_reducible first | exact HB.out | apply qAb | apply qAa | apply qAc | refine below_set ?_ GE102.out) | exact HB.out)) hb); clear BK102; clear HB; have BK102 := n0_; have HB := n1_; clear n0_ n1_; (try clear hb); (try clear hb2); (try clear hk); (try clear hi)))
      try any_goals (exfalso; have h_ := Sc5.out; rename_i hb_; (try simp only [ByteArray.size_extract, ByteArray.size_append] at h_ hb_); (try simp only [ByteArray.size, List.size_toArray, List.length_cons, List.length_nil] at h_ hb_); omega)
      try any_goals (exfalso; have h_ := Sc9.out; rename_i hb_; (try simp only [ByteArray.size_extract, ByteArray.size_append] at h_ hb_); (try simp only [ByteArray.size, List.size_toArray, List.length_cons, List.length_nil] at h_ hb_); omega)
      go_ret
      exact ⟨by first | rfl | (simp [qAi, qAh] <;> rfl) | (simp [*, qAi, qAh] <;> rfl), by repeat (first | (with_reducible first | exact HB.out | apply qAb | apply qAa | apply qAc | refine below_set ?_ GE102.out) | exact HB.out)⟩
     ·rw [if_neg c9] at H
      exact absurd H (by simp)
    ·rw [if_neg c7] at H
     have c7b0 : decide (100 < (a0_2.size : Int)) = false := decide_eq_false c7
     have c7b1 : decide (100 < a0_2.size) = false := decide_eq_false (by omega)
     clear c7
     obtain rfl := Option.some.inj H
     go_enter Tryd.func92, Tryd.ntmps92
     go_wp2_with (first | ((with_reducible refine qBe (N := 1) rfl ?_); (try (refine qA8 (by rfl) ?_; dsimp only)); refine qA7 ?hg (N := 1) ?hd (cs := #[.string a0_0, .int .i64 a0_1, .string a0_2]) (t := 29) ?hr ?_; (case hd => rfl); (case hg => rfl); (case hr => first | (go_simp; done) | (go_simp; rfl)); intro gb102 hg w16 hbox hb; have n0_ := Aside0.mk (qAe (by repeat (first | (with_reducible first | exact HB.out | apply qAb | apply qAa | apply qAc) | exact HB.out)) hb); have n1_ := Aside0.mk (hbox); have n2_ := Aside0.mk ((by rw [hg]; exact (qAm (by repeat (first | (with_reducible first | exact HB.out | apply qAb | apply qAa | apply qAc) | exact HB.out))) : w.heap.size ≤ gb102)); have n3_ := Aside0.mk ((by rw [hg]; exact (qAm (by repeat (first | (with_reducible first | exact HB.out | apply qAb | apply qAa | apply qAc) | exact HB.out))) : w.heap.size ≤ gb102)); clear HB; have HB := n0_; have BK102 := n1_; have GW102 := n2_; have GE102 := n3_; clear n0_ n1_ n2_ n3_; clear hb hbox hg; have hcz17_0 : w16.cell? ⟨gb102, 0, none⟩ = some (.string a0_0) := (qAd BK102.out 0).trans rfl; have hcz17_1 : w16.cell? ⟨gb102, 1, none⟩ = some (.int .i64 a0_1) := (qAd BK102.out 1).trans rfl; have hcz17_2 : w16.cell? ⟨gb102, 2, none⟩ = some (.string a0_2) := (qAd BK102.out 2).trans rfl; have hfz17_0 := qAf BK102.out 0; have hfz17_1 := qAf BK102.out 1; have hfz17_2 := qAf BK102.out 2) | ((with_reducible refine qAp (f := 95) rfl ?_); refine goesL_ (some 6) rfl rfl Tryd.func95 (by kernel_rfl) rfl #[.agg #[.string a0_0, .int .i64 a0_1, .string a0_2]] rfl (by (try simp only [List.map_toArray, List.map_cons, List.map_nil]); first | done | rfl | (simp only [List.length_drop, List.length_take]; rfl)) ?_; (with_reducible refine (tar_name.calls a0_0 a0_1 a0_2 t103 _ A2.out).mono ?_); rintro e w18 ⟨rfl, hb⟩; refine ⟨_, rfl, ?_⟩; have n0_ := Aside0.mk (qAg (g := gb102) (o := .cells #[.string a0_0, .int .i64 a0_1, .string a0_2] 29 (0, 0)) (by (with_reducible repeat (first | refine blk_drewN ?_ _ | refine blk_drew ?_ | refine blk_alloc ?_ _)); exact BK102.out) hb); have n1_ := Aside0.mk (qAe (by repeat (first | (with_reducible first | exact HB.out | apply qAb | apply qAa | apply qAc | refine below_set ?_ GE102.out) | exact HB.out)) hb); clear BK102; clear HB; have BK102 := n0_; have HB := n1_; clear n0_ n1_; (try clear hb); (try clear hb2); (try clear hk); (try clear hi)) | ((with_reducible refine qAp (f := 12) rfl ?_); refine goesL_ (some 12) rfl rfl Tryd.func12 (by kernel_rfl) rfl #[.string (⟨#[112, 97, 116, 104]⟩ : ByteArray), .string t103] rfl (by (try simp only [List.map_toArray, List.map_cons, List.map_nil]); first | done | rfl | (simp only [List.length_drop, List.length_take]; rfl)) ?_; (with_reducible refine (tar_Record.calls (⟨#[112, 97, 116, 104]⟩ : ByteArray) t103 t104 _ ?side1 A4.out).mono ?_); (case side1 => exact ⟨Tabs.below hT.out (by repeat (first | (with_reducible first | exact HB.out | apply qAb | apply qAa | apply qAc | refine below_set ?_ GE102.out) | exact HB.out))⟩); rintro e w19 ⟨rfl, hb⟩; refine ⟨_, rfl, ?_⟩; have n0_ := Aside0.mk (qAg (g := gb102) (o := .cells #[.string a0_0, .int .i64 a0_1, .string a0_2] 29 (0, 0)) (by (with_reducible repeat (first | refine blk_drewN ?_ _ | refine blk_drew ?_ | refine blk_alloc ?_ _)); exact BK102.out) hb); have n1_ := Aside0.mk (qAe (by repeat (first | (with_reducible first | exact HB.out | apply qAb | apply qAa | apply qAc | refine below_set ?_ GE102.out) | exact HB.out)) hb); clear BK102; clear HB; have BK102 := n0_; have HB := n1_; clear n0_ n1_; (try clear hb); (try clear hb2); (try clear hk); (try clear hi); have hcz20_0 : w19.cell? ⟨gb102, 0, none⟩ = some (.string a0_0) := (qAd BK102.out 0).trans rfl; have hcz20_1 : w19.cell? ⟨gb102, 1, none⟩ = some (.int .i64 a0_1) := (qAd BK102.out 1).trans rfl; have hcz20_2 : w19.cell? ⟨gb102, 2, none⟩ = some (.string a0_2) := (qAd BK102.out 2).trans rfl; have hfz20_0 := qAf BK102.out 0; have hfz20_1 := qAf BK102.out 1; have hfz20_2 := qAf BK102.out 2))
     try any_goals (exfalso; have h_ := Sc5.out; rename_i hb_; (try simp only [ByteArray.size_extract, ByteArray.size_append] at h_ hb_); (try simp only [ByteArray.size, List.size_toArray, List.length_cons, List.length_nil] at h_ hb_); omega)
     go_ret
     exact ⟨by first | rfl | (simp [qAi, qAh] <;> rfl) | (simp [*, qAi, qAh] <;> rfl), by repeat (first | (with_reducible first | exact HB.out | apply qAb | apply qAa | apply qAc | refine below_set ?_ GE102.out) | exact HB.out)⟩
   ·rw [if_neg c6] at H
    have c6b0 : (a0_1 == 4) = false := beq_eq_false_iff_ne.mpr c6
    have c6b1 : (a0_1 != 4) = true := bne_iff_ne.mpr c6
    obtain rfl := Option.some.inj H
    go_enter Tryd.func92, Tryd.ntmps92
    go_wp2_with (first | ((with_reducible refine qBe (N := 1) rfl ?_); (try (refine qA8 (by rfl) ?_; dsimp only)); refine qA7 ?hg (N := 1) ?hd (cs := #[.string a0_0, .int .i64 a0_1, .string a0_2]) (t := 29) ?hr ?_; (case hd => rfl); (case hg => rfl); (case hr => first | (go_simp; done) | (go_simp; rfl)); intro gb102 hg w21 hbox hb; have n0_ := Aside0.mk (qAe (by repeat (first | (with_reducible first | exact HB.out | apply qAb | apply qAa | apply qAc) | exact HB.out)) hb); have n1_ := Aside0.mk (hbox); have n2_ := Aside0.mk ((by rw [hg]; exact (qAm (by repeat (first | (with_reducible first | exact HB.out | apply qAb | apply qAa | apply qAc) | exact HB.out))) : w.heap.size ≤ gb102)); have n3_ := Aside0.mk ((by rw [hg]; exact (qAm (by repeat (first | (with_reducible first | exact HB.out | apply qAb | apply qAa | apply qAc) | exact HB.out))) : w.heap.size ≤ gb102)); clear HB; have HB := n0_; have BK102 := n1_; have GW102 := n2_; have GE102 := n3_; clear n0_ n1_ n2_ n3_; clear hb hbox hg; have hcz22_0 : w21.cell? ⟨gb102, 0, none⟩ = some (.string a0_0) := (qAd BK102.out 0).trans rfl; have hcz22_1 : w21.cell? ⟨gb102, 1, none⟩ = some (.int .i64 a0_1) := (qAd BK102.out 1).trans rfl; have hcz22_2 : w21.cell? ⟨gb102, 2, none⟩ = some (.string a0_2) := (qAd BK102.out 2).trans rfl; have hfz22_0 := qAf BK102.out 0; have hfz22_1 := qAf BK102.out 1; have hfz22_2 := qAf BK102.out 2) | ((with_reducible refine qAp (f := 95) rfl ?_); refine goesL_ (some 6) rfl rfl Tryd.func95 (by kernel_rfl) rfl #[.agg #[.string a0_0, .int .i64 a0_1, .string a0_2]] rfl (by (try simp only [List.map_toArray, List.map_cons, List.map_nil]); first | done | rfl | (simp only [List.length_drop, List.length_take]; rfl)) ?_; (with_reducible refine (tar_name.calls a0_0 a0_1 a0_2 t103 _ A2.out).mono ?_); rintro e w23 ⟨rfl, hb⟩; refine ⟨_, rfl, ?_⟩; have n0_ := Aside0.mk (qAg (g := gb102) (o := .cells #[.string a0_0, .int .i64 a0_1, .string a0_2] 29 (0, 0)) (by (with_reducible repeat (first | refine blk_drewN ?_ _ | refine blk_drew ?_ | refine blk_alloc ?_ _)); exact BK102.out) hb); have n1_ := Aside0.mk (qAe (by repeat (first | (with_reducible first | exact HB.out | apply qAb | apply qAa | apply qAc | refine below_set ?_ GE102.out) | exact HB.out)) hb); clear BK102; clear HB; have BK102 := n0_; have HB := n1_; clear n0_ n1_; (try clear hb); (try clear hb2); (try clear hk); (try clear hi)) | ((with_reducible refine qAp (f := 12) rfl ?_); refine goesL_ (some 12) rfl rfl Tryd.func12 (by kernel_rfl) rfl #[.string (⟨#[112, 97, 116, 104]⟩ : ByteArray), .string t103] rfl (by (try simp only [List.map_toArray, List.map_cons, List.map_nil]); first | done | rfl | (simp only [List.length_drop, List.length_take]; rfl)) ?_; (with_reducible refine (tar_Record.calls (⟨#[112, 97, 116, 104]⟩ : ByteArray) t103 t104 _ ?side1 A4.out).mono ?_); (case side1 => exact ⟨Tabs.below hT.out (by repeat (first | (with_reducible first | exact HB.out | apply qAb | apply qAa | apply qAc | refine below_set ?_ GE102.out) | exact HB.out))⟩); rintro e w24 ⟨rfl, hb⟩; refine ⟨_, rfl, ?_⟩; have n0_ := Aside0.mk (qAg (g := gb102) (o := .cells #[.string a0_0, .int .i64 a0_1, .string a0_2] 29 (0, 0)) (by (with_reducible repeat (first | refine blk_drewN ?_ _ | refine blk_drew ?_ | refine blk_alloc ?_ _)); exact BK102.out) hb); have n1_ := Aside0.mk (qAe (by repeat (first | (with_reducible first | exact HB.out | apply qAb | apply qAa | apply qAc | refine below_set ?_ GE102.out) | exact HB.out)) hb); clear BK102; clear HB; have BK102 := n0_; have HB := n1_; clear n0_ n1_; (try clear hb); (try clear hb2); (try clear hk); (try clear hi); have hcz25_0 : w24.cell? ⟨gb102, 0, none⟩ = some (.string a0_0) := (qAd BK102.out 0).trans rfl; have hcz25_1 : w24.cell? ⟨gb102, 1, none⟩ = some (.int .i64 a0_1) := (qAd BK102.out 1).trans rfl; have hcz25_2 : w24.cell? ⟨gb102, 2, none⟩ = some (.string a0_2) := (qAd BK102.out 2).trans rfl; have hfz25_0 := qAf BK102.out 0; have hfz25_1 := qAf BK102.out 1; have hfz25_2 := qAf BK102.out 2))
    try any_goals (exfalso; have h_ := Sc5.out; rename_i hb_; (try simp only [ByteArray.size_extract, ByteArray.size_append] at h_ hb_); (try simp only [ByteArray.size, List.size_toArray, List.length_cons, List.length_nil] at h_ hb_); omega)
    go_ret
    exact ⟨by first | rfl | (simp [qAi, qAh] <;> rfl) | (simp [*, qAi, qAh] <;> rfl), by repeat (first | (with_reducible first | exact HB.out | apply qAb | apply qAa | apply qAc | refine below_set ?_ GE102.out) | exact HB.out)⟩
  ·rw [if_neg c5] at H
   exact absurd H (by simp)
 ·rw [if_neg c3] at H
  have c3b0 : decide (100 < (t103.size : Int)) = false := decide_eq_false c3
  have c3b1 : decide (100 < t103.size) = false := decide_eq_false (by omega)
  clear c3
  by_cases c26 : a0_1 = 4
  ·rw [if_pos c26] at H
   have c26b0 : (a0_1 == 4) = true := beq_iff_eq.mpr c26
   have c26b1 : (a0_1 != 4) = false := bne_eq_false_iff_eq.mpr c26
   clear c26
   by_cases c27 : (a0_2.size : Int) > 100
   ·rw [if_pos c27] at H
    have c27b0 : decide (100 < (a0_2.size : Int)) = true := decide_eq_true c27
    have c27b1 : decide (100 < a0_2.size) = true := decide_eq_true (by omega)
    clear c27
    replace H := Option.bind_eq_some_iff.mp H
    obtain ⟨t106, A280, H⟩ := H
    replace H : (if 0 + t106.size ≤ 9223372036854775807 then (some ((⟨#[]⟩ : ByteArray) ++ t106)) else (none)) = some r := H
    have A28 := Aside0.mk A280
    clear A280
    by_cases c29 : 0 + t106.size ≤ 9223372036854775807
    ·rw [if_pos c29] at H
     have c29b0 := eq_true c29
     have c29b1 : decide (0 + t106.size ≤ 9223372036854775807) = true := decide_eq_true c29
     try have c29b2 : (9223372036854775807 < 0 + t106.size) = False := eq_false (Nat.not_lt.2 c29)
     have Sc29 := Aside0.mk c29
     clear c29
     obtain rfl := Option.some.inj H
     go_enter Tryd.func92, Tryd.ntmps92
     go_wp2_with (first | ((with_reducible refine qBe (N := 1) rfl ?_); (try (refine qA8 (by rfl) ?_; dsimp only)); refine qA7 ?hg (N := 1) ?hd (cs := #[.string a0_0, .int .i64 a0_1, .string a0_2]) (t := 29) ?hr ?_; (case hd => rfl); (case hg => rfl); (case hr => first | (go_simp; done) | (go_simp; rfl)); intro gb102 hg w30 hbox hb; have n0_ := Aside0.mk (qAe (by repeat (first | (with_reducible first | exact HB.out | apply qAb | apply qAa | apply qAc) | exact HB.out)) hb); have n1_ := Aside0.mk (hbox); have n2_ := Aside0.mk ((by rw [hg]; exact (qAm (by repeat (first | (with_reducible first | exact HB.out | apply qAb | apply qAa | apply qAc) | exact HB.out))) : w.heap.size ≤ gb102)); have n3_ := Aside0.mk ((by rw [hg]; exact (qAm (by repeat (first | (with_reducible first | exact HB.out | apply qAb | apply qAa | apply qAc) | exact HB.out))) : w.heap.size ≤ gb102)); clear HB; have HB := n0_; have BK102 := n1_; have GW102 := n2_; have GE102 := n3_; clear n0_ n1_ n2_ n3_; clear hb hbox hg; have hcz31_0 : w30.cell? ⟨gb102, 0, none⟩ = some (.string a0_0) := (qAd BK102.out 0).trans rfl; have hcz31_1 : w30.cell? ⟨gb102, 1, none⟩ = some (.int .i64 a0_1) := (qAd BK102.out 1).trans rfl; have hcz31_2 : w30.cell? ⟨gb102, 2, none⟩ = some (.string a0_2) := (qAd BK102.out 2).trans rfl; have hfz31_0 := qAf BK102.out 0; have hfz31_1 := qAf BK102.out 1; have hfz31_2 := qAf BK102.out 2) | ((with_reducible refine qAp (f := 95) rfl ?_); refine goesL_ (some 6) rfl rfl Tryd.func95 (by kernel_rfl) rfl #[.agg #[.string a0_0, .int .i64 a0_1, .string a0_2]] rfl (by (try simp only [List.map_toArray, List.map_cons, List.map_nil]); first | done | rfl | (simp only [List.length_drop, List.length_take]; rfl)) ?_; (with_reducible refine (tar_name.calls a0_0 a0_1 a0_2 t103 _ A2.out).mono ?_); rintro e w32 ⟨rfl, hb⟩; refine ⟨_, rfl, ?_⟩; have n0_ := Aside0.mk (qAg (g := gb102) (o := .cells #[.string a0_0, .int .i64 a0_1, .string a0_2] 29 (0, 0)) (by (with_reducible repeat (first | refine blk_drewN ?_ _ | refine blk_drew ?_ | refine blk_alloc ?_ _)); exact BK102.out) hb); have n1_ := Aside0.mk (qAe (by repeat (first | (with_reducible first | exact HB.out | apply qAb | apply qAa | apply qAc | refine below_set ?_ GE102.out) | exact HB.out)) hb); clear BK102; clear HB; have BK102 := n0_; have HB := n1_; clear n0_ n1_; (try clear hb); (try clear hb2); (try clear hk); (try clear hi); have hcz33_0 : w32.cell? ⟨gb102, 0, none⟩ = some (.string a0_0) := (qAd BK102.out 0).trans rfl; have hcz33_1 : w32.cell? ⟨gb102, 1, none⟩ = some (.int .i64 a0_1) := (qAd BK102.out 1).trans rfl; have hcz33_2 : w32.cell? ⟨gb102, 2, none⟩ = some (.string a0_2) := (qAd BK102.out 2).trans rfl; have hfz33_0 := qAf BK102.out 0; have hfz33_1 := qAf BK102.out 1; have hfz33_2 := qAf BK102.out 2) | ((with_reducible refine qAp (f := 12) rfl ?_); refine goesL_ (some 26) rfl rfl Tryd.func12 (by kernel_rfl) rfl #[.string (⟨#[108, 105, 110, 107, 112, 97, 116, 104]⟩ : ByteArray), .string a0_2] rfl (by (try simp only [List.map_toArray, List.map_cons, List.map_nil]); first | done | rfl | (simp only [List.length_drop, List.length_take]; rfl)) ?_; (with_reducible refine (tar_Record.calls (⟨#[108, 105, 110, 107, 112, 97, 116, 104]⟩ : ByteArray) a0_2 t106 _ ?side1 A28.out).mono ?_); (case side1 => exact ⟨Tabs.below hT.out (by repeat (first | (with_reducible first | exact HB.out | apply qAb | apply qAa | apply qAc | refine below_set ?_ GE102.out) | exact HB.out))⟩); rintro e w34 ⟨rfl, hb⟩; refine ⟨_, rfl, ?_⟩; have n0_ := Aside0.mk (qAg (g := gb102) (o := .cells #[.string a0_0, .int .i64 a0_1, .string a0_2] 29 (0, 0)) (by (with_reducible repeat (first | refine blk_drewN ?_ _ | refine blk_drew ?_ | refine blk_alloc ?_ _)); exact BK102.out) hb); have n1_ := Aside0.mk (qAe (by repeat (first | (with_reducible first | exact HB.out | apply qAb | apply qAa | apply qAc | refine below_set ?_ GE102.out) | exact HB.out)) hb); clear BK102; clear HB; have BK102 := n0_; have HB := n1_; clear n0_ n1_; (try clear hb); (try clear hb2); (try clear hk); (try clear hi)))
     try any_goals (exfalso; have h_ := Sc29.out; rename_i hb_; (try simp only [ByteArray.size_extract, ByteArray.size_append] at h_ hb_); (try simp only [ByteArray.size, List.size_toArray, List.length_cons, List.length_nil] at h_ hb_); omega)
     go_ret
     exact ⟨by first | rfl | (simp [qAi, qAh] <;> rfl) | (simp [*, qAi, qAh] <;> rfl), by repeat (first | (with_reducible first | exact HB.out | apply qAb | apply qAa | apply qAc | refine below_set ?_ GE102.out) | exact HB.out)⟩
    ·rw [if_neg c29] at H
     exact absurd H (by simp)
   ·rw [if_neg c27] at H
    have c27b0 : decide (100 < (a0_2.size : Int)) = false := decide_eq_false c27
    have c27b1 : decide (100 < a0_2.size) = false := decide_eq_false (by omega)
    clear c27
    obtain rfl := Option.some.inj H
    go_enter Tryd.func92, Tryd.ntmps92
    go_wp2_with (first | ((with_reducible refine qBe (N := 1) rfl ?_); (try (refine qA8 (by rfl) ?_; dsimp only)); refine qA7 ?hg (N := 1) ?hd (cs := #[.string a0_0, .int .i64 a0_1, .string a0_2]) (t := 29) ?hr ?_; (case hd => rfl); (case hg => rfl); (case hr => first | (go_simp; done) | (go_simp; rfl)); intro gb102 hg w35 hbox hb; have n0_ := Aside0.mk (qAe (by repeat (first | (with_reducible first | exact HB.out | apply qAb | apply qAa | apply qAc) | exact HB.out)) hb); have n1_ := Aside0.mk (hbox); have n2_ := Aside0.mk ((by rw [hg]; exact (qAm (by repeat (first | (with_reducible first | exact HB.out | apply qAb | apply qAa | apply qAc) | exact HB.out))) : w.heap.size ≤ gb102)); have n3_ := Aside0.mk ((by rw [hg]; exact (qAm (by repeat (first | (with_reducible first | exact HB.out | apply qAb | apply qAa | apply qAc) | exact HB.out))) : w.heap.size ≤ gb102)); clear HB; have HB := n0_; have BK102 := n1_; have GW102 := n2_; have GE102 := n3_; clear n0_ n1_ n2_ n3_; clear hb hbox hg; have hcz36_0 : w35.cell? ⟨gb102, 0, none⟩ = some (.string a0_0) := (qAd BK102.out 0).trans rfl; have hcz36_1 : w35.cell? ⟨gb102, 1, none⟩ = some (.int .i64 a0_1) := (qAd BK102.out 1).trans rfl; have hcz36_2 : w35.cell? ⟨gb102, 2, none⟩ = some (.string a0_2) := (qAd BK102.out 2).trans rfl; have hfz36_0 := qAf BK102.out 0; have hfz36_1 := qAf BK102.out 1; have hfz36_2 := qAf BK102.out 2) | ((with_reducible refine qAp (f := 95) rfl ?_); refine goesL_ (some 6) rfl rfl Tryd.func95 (by kernel_rfl) rfl #[.agg #[.string a0_0, .int .i64 a0_1, .string a0_2]] rfl (by (try simp only [List.map_toArray, List.map_cons, List.map_nil]); first | done | rfl | (simp only [List.length_drop, List.length_take]; rfl)) ?_; (with_reducible refine (tar_name.calls a0_0 a0_1 a0_2 t103 _ A2.out).mono ?_); rintro e w37 ⟨rfl, hb⟩; refine ⟨_, rfl, ?_⟩; have n0_ := Aside0.mk (qAg (g := gb102) (o := .cells #[.string a0_0, .int .i64 a0_1, .string a0_2] 29 (0, 0)) (by (with_reducible repeat (first | refine blk_drewN ?_ _ | refine blk_drew ?_ | refine blk_alloc ?_ _)); exact BK102.out) hb); have n1_ := Aside0.mk (qAe (by repeat (first | (with_reducible first | exact HB.out | apply qAb | apply qAa | apply qAc | refine below_set ?_ GE102.out) | exact HB.out)) hb); clear BK102; clear HB; have BK102 := n0_; have HB := n1_; clear n0_ n1_; (try clear hb); (try clear hb2); (try clear hk); (try clear hi); have hcz38_0 : w37.cell? ⟨gb102, 0, none⟩ = some (.string a0_0) := (qAd BK102.out 0).trans rfl; have hcz38_1 : w37.cell? ⟨gb102, 1, none⟩ = some (.int .i64 a0_1) := (qAd BK102.out 1).trans rfl; have hcz38_2 : w37.cell? ⟨gb102, 2, none⟩ = some (.string a0_2) := (qAd BK102.out 2).trans rfl; have hfz38_0 := qAf BK102.out 0; have hfz38_1 := qAf BK102.out 1; have hfz38_2 := qAf BK102.out 2))
    go_ret
    exact ⟨by first | rfl | (simp [qAi, qAh] <;> rfl) | (simp [*, qAi, qAh] <;> rfl), by repeat (first | (with_reducible first | exact HB.out | apply qAb | apply qAa | apply qAc | refine below_set ?_ GE102.out) | exact HB.out)⟩
  ·rw [if_neg c26] at H
   have c26b0 : (a0_1 == 4) = false := beq_eq_false_iff_ne.mpr c26
   have c26b1 : (a0_1 != 4) = true := bne_iff_ne.mpr c26
   obtain rfl := Option.some.inj H
   go_enter Tryd.func92, Tryd.ntmps92
   go_wp2_with (first | ((with_reducible refine qBe (N := 1) rfl ?_); (try (refine qA8 (by rfl) ?_; dsimp only)); refine qA7 ?hg (N := 1) ?hd (cs := #[.string a0_0, .int .i64 a0_1, .string a0_2]) (t := 29) ?hr ?_; (case hd => rfl); (case hg => rfl); (case hr => first | (go_simp; done) | (go_simp; rfl)); intro gb102 hg w39 hbox hb; have n0_ := Aside0.mk (qAe (by repeat (first | (with_reducible first | exact HB.out | apply qAb | apply qAa | apply qAc) | exact HB.out)) hb); have n1_ := Aside0.mk (hbox); have n2_ := Aside0.mk ((by rw [hg]; exact (qAm (by repeat (first | (with_reducible first | exact HB.out | apply qAb | apply qAa | apply qAc) | exact HB.out))) : w.heap.size ≤ gb102)); have n3_ := Aside0.mk ((by rw [hg]; exact (qAm (by repeat (first | (with_reducible first | exact HB.out | apply qAb | apply qAa | apply qAc) | exact HB.out))) : w.heap.size ≤ gb102)); clear HB; have HB := n0_; have BK102 := n1_; have GW102 := n2_; have GE102 := n3_; clear n0_ n1_ n2_ n3_; clear hb hbox hg; have hcz40_0 : w39.cell? ⟨gb102, 0, none⟩ = some (.string a0_0) := (qAd BK102.out 0).trans rfl; have hcz40_1 : w39.cell? ⟨gb102, 1, none⟩ = some (.int .i64 a0_1) := (qAd BK102.out 1).trans rfl; have hcz40_2 : w39.cell? ⟨gb102, 2, none⟩ = some (.string a0_2) := (qAd BK102.out 2).trans rfl; have hfz40_0 := qAf BK102.out 0; have hfz40_1 := qAf BK102.out 1; have hfz40_2 := qAf BK102.out 2) | ((with_reducible refine qAp (f := 95) rfl ?_); refine goesL_ (some 6) rfl rfl Tryd.func95 (by kernel_rfl) rfl #[.agg #[.string a0_0, .int .i64 a0_1, .string a0_2]] rfl (by (try simp only [List.map_toArray, List.map_cons, List.map_nil]); first | done | rfl | (simp only [List.length_drop, List.length_take]; rfl)) ?_; (with_reducible refine (tar_name.calls a0_0 a0_1 a0_2 t103 _ A2.out).mono ?_); rintro e w41 ⟨rfl, hb⟩; refine ⟨_, rfl, ?_⟩; have n0_ := Aside0.mk (qAg (g := gb102) (o := .cells #[.string a0_0, .int .i64 a0_1, .string a0_2] 29 (0, 0)) (by (with_reducible repeat (first | refine blk_drewN ?_ _ | refine blk_drew ?_ | refine blk_alloc ?_ _)); exact BK102.out) hb); have n1_ := Aside0.mk (qAe (by repeat (first | (with_reducible first | exact HB.out | apply qAb | apply qAa | apply qAc | refine below_set ?_ GE102.out) | exact HB.out)) hb); clear BK102; clear HB; have BK102 := n0_; have HB := n1_; clear n0_ n1_; (try clear hb); (try clear hb2); (try clear hk); (try clear hi); have hcz42_0 : w41.cell? ⟨gb102, 0, none⟩ = some (.string a0_0) := (qAd BK102.out 0).trans rfl; have hcz42_1 : w41.cell? ⟨gb102, 1, none⟩ = some (.int .i64 a0_1) := (qAd BK102.out 1).trans rfl; have hcz42_2 : w41.cell? ⟨gb102, 2, none⟩ = some (.string a0_2) := (qAd BK102.out 2).trans rfl; have hfz42_0 := qAf BK102.out 0; have hfz42_1 := qAf BK102.out 1; have hfz42_2 := qAf BK102.out 2))
   go_ret
   exact ⟨by first | rfl | (simp [qAi, qAh] <;> rfl) | (simp [*, qAi, qAh] <;> rfl), by repeat (first | (with_reducible first | exact HB.out | apply qAb | apply qAa | apply qAc | refine below_set ?_ GE102.out) | exact HB.out)⟩
end Go.Proofs.YtdijnmcfpbceaaaDoor.P

namespace Go.Proofs.YtdijnmcfpbceaaaDoor.P
open Go.Proofs.YtdijnmcfpbceaaaDoor.X
open Go.RowKit Go.Proofs.YtdijnmcfpbceaaaDoorW.PrintWords Go.Proofs.YtdijnmcfpbceaaaDoorW.PrintLast Go.Proofs.YtdijnmcfpbceaaaDoorW.PrintMore
attribute [local go_sem] qAt qAy
set_option linter.unusedVariables false
set_option linter.unusedSimpArgs false
def tar_cut.f (a0 : ByteArray) : Option (ByteArray) := if 0 ≤ (mn (a0.size : Int) 100) then (if (mn (a0.size : Int) 100) ≤ (a0.size : Int) then (some (a0.extract 0 ((mn (a0.size : Int) 100) : Int).toNat)) else (none)) else (none)
set_option maxHeartbeats 8000000 in
set_option maxRecDepth 100000 in
theorem tar_cut.calls (a0 : ByteArray) (r : ByteArray) (w : World) (h : tar_cut.f a0 = some r) :
  Calls Tryd.prog 94 #[.string a0] w fun e w' => e = .returned (.string r) ∧ Below w.heap.size w w' := by
 have HB := Aside0.mk (Below.refl w.heap.size w)
 have H : (if 0 ≤ (mn (a0.size : Int) 100) then (if (mn (a0.size : Int) 100) ≤ (a0.size : Int) then (some (a0.extract 0 ((mn (a0.size : Int) 100) : Int).toNat)) else (none)) else (none)) = some r := h
 clear h
 obtain ⟨ji2, hji2⟩ : ∃ j_ : Int, (mn (a0.size : Int) 100) = j_ := ⟨_, rfl⟩
 replace H : (if 0 ≤ (ji2) then (if (ji2) ≤ (a0.size : Int) then (some (a0.extract 0 ((ji2) : Int).toNat)) else (none)) else (none)) = some r := by first | (rw [hji2] at H; exact H) | (simp only [hji2] at H ⊢; exact H)
 (try (have hji2h : ji2 ≤ 100 := by (rw [← hji2]; unfold mn; (repeat' split) <;> omega)))
 (try (have hji2g : ji2 ≤ 64 := by omega))
 (try (have hji2l : 0 ≤ ji2 := by (rw [← hji2]; unfold mn; (repeat' split) <;> omega)))
 (try (have hji2m : 0 ≤ ji2 := by omega))
 have hji2_ : (if 100 < (a0.size : Int) then 100 else (a0.size : Int)) = ji2 := hji2
 by_cases c3 : 0 ≤ (ji2)
 ·rw [if_pos c3] at H
  have c3b0 := eq_true c3
  have c3b1 : decide (0 ≤ (ji2)) = true := decide_eq_true c3
  clear c3
  by_cases c4 : (ji2) ≤ (a0.size : Int)
  ·rw [if_pos c4] at H
   have c4b0 := eq_true c4
   have c4b1 : decide ((ji2) ≤ (a0.size : Int)) = true := decide_eq_true c4
   clear c4
   obtain rfl := Option.some.inj H
   go_enter Tryd.func94, Tryd.ntmps94
   go_wp2
   go_ret
   exact ⟨by first | rfl | (simp [qAi, qAh] <;> rfl) | (simp only [← hji2]; first | rfl | (simp [qAi, qAh] <;> rfl)) | (simp [*, qAi, qAh] <;> rfl), by repeat (first | (with_reducible first | exact HB.out | apply qAb | apply qAa | apply qAc) | exact HB.out)⟩
  ·rw [if_neg c4] at H
   exact absurd H (by simp)
 ·rw [if_neg c3] at H
  exact absurd H (by simp)
end Go.Proofs.YtdijnmcfpbceaaaDoor.P

namespace Go.Proofs.YtdijnmcfpbceaaaDoor.X
open Go.RowKit Go.Proofs.YtdijnmcfpbceaaaDoorW.PrintWords Go.Proofs.YtdijnmcfpbceaaaDoorW.PrintLast Go.Proofs.YtdijnmcfpbceaaaDoorW.PrintMore Go.Proofs.YtdijnmcfpbceaaaDoor.P
set_option linter.unusedVariables false
set_option linter.unusedSimpArgs false
theorem qF7 (n : S29) : tar_name.f n.f0 n.f1 n.f2 = some (nameN n) := by
  unfold tar_name.f nameN
  by_cases h : n.f0.size = 0
  · rw [if_pos ((qAu _).2 h), if_pos h]
  · rw [if_neg (fun e => h ((qAu _).1 e)), if_neg h]
theorem cut_eq (s : ByteArray) : tar_cut.f s = some (cutS s) := by
  unfold tar_cut.f cutS
  have e : mn (s.size : Int) 100 = ((min s.size 100 : Nat) : Int) := by
    unfold mn
    omega
  rw [e, if_pos (by omega), if_pos (by omega), Int.toNat_natCast]
theorem qBz (s : ByteArray) : (⟨#[]⟩ : ByteArray) ++ s = s := by
  apply qA6
  rw [ByteArray.toList_data_append]
  rfl
theorem qBl (s : ByteArray) : s ++ (⟨#[]⟩ : ByteArray) = s := by
  apply qA6
  rw [ByteArray.toList_data_append]
  simp
theorem qG3 (n : S29) (h0 : n.f0.size ≤ 1000) (h2 : n.f2.size ≤ 1000) : tar_extra.f n.f0 n.f1 n.f2 = some (extraN n) := by
  unfold tar_extra.f extraN
  rw [qF7]
  simp only [Option.bind_some]
  have hn : (nameN n).size ≤ 1000 := by
    unfold nameN
    split
    · exact (by decide : (⟨#[46]⟩ : ByteArray).size ≤ 1000)
    · exact h0
  generalize nameN n = p at *
  have hr : ∀ a b : ByteArray, a.size ≤ 10 → b.size ≤ 1000 → tar_Record.f a b = some (recT a b) ∧ (recT a b).size ≤ 3000 := fun a b ha hb => by
    refine ⟨by unfold tar_Record.f; rw [if_pos (by omega)], ?_⟩
    rw [qDy, ByteArray.size_append, qCe, qB2]
    have h1 := qDc 5 (recM (a.size + b.size + 3)) (by
      have h2 := (qC8 (a.size + b.size + 3) (by omega)).2
      have : (10 : Nat) ^ (5 + 1) = 1000000 := by decide
      omega)
    omega
  obtain ⟨a1, a2⟩ := hr ⟨#[112, 97, 116, 104]⟩ p (by decide) hn
  obtain ⟨b1, b2⟩ := hr ⟨#[108, 105, 110, 107, 112, 97, 116, 104]⟩ n.f2 (by decide) h2
  rw [a1, b1]
  simp only [Option.bind_some, qBz]
  have c1 : 0 + (recT ⟨#[112, 97, 116, 104]⟩ p).size ≤ 9223372036854775807 := by omega
  have c2 : (recT ⟨#[112, 97, 116, 104]⟩ p).size + (recT ⟨#[108, 105, 110, 107, 112, 97, 116, 104]⟩ n.f2).size ≤ 9223372036854775807 := by omega
  have c3 : 0 + (recT ⟨#[108, 105, 110, 107, 112, 97, 116, 104]⟩ n.f2).size ≤ 9223372036854775807 := by omega
  rw [if_pos c1, if_pos c2, if_pos c3]
  by_cases d1 : 100 < p.size
  · have d1' : (p.size : Int) > 100 := by omega
    rw [if_pos d1', if_pos d1]
    by_cases d2 : n.f1 = 4
    · by_cases d3 : 100 < n.f2.size
      · rw [if_pos d2, if_pos (by omega), if_pos ⟨d2, d3⟩]
      · rw [if_pos d2, if_neg (by omega), if_neg (fun e => d3 e.2), qBl]
    · rw [if_neg d2, if_neg (fun e => d2 e.1), qBl]
  · have d1' : ¬ (p.size : Int) > 100 := by omega
    rw [if_neg d1', if_neg d1]
    by_cases d2 : n.f1 = 4
    · by_cases d3 : 100 < n.f2.size
      · rw [if_pos d2, if_pos (by omega), if_pos ⟨d2, d3⟩, qBz]
      · rw [if_pos d2, if_neg (by omega), if_neg (fun e => d3 e.2), qBl]
    · rw [if_neg d2, if_neg (fun e => d2 e.1), qBl]
section
variable {P : Program} {ops : Array Oper} {rest : List Oper} {o : Oper} {a : Act} {Q : Exit → Act → World → Prop}
theorem qD7 (m : Nat) : (Builtin.zeroCells (Value.int .u8 0).cells m).toList = nums .u8 (List.replicate m 0) := by
  apply List.ext_getElem
  · simp [Builtin.zeroCells, nums, Value.cells]
  · intro i h1 h2
    simp [Builtin.zeroCells, nums, Value.cells, Nat.mod_one]
theorem qCh {w0 W : World} (base : Nat) (hgd : o.guard = none) (s x : Operand) (t ti e : TypeId) {k : IntKind}
    (ho : o.op = .call { callee := .builtin .append, args := #[s, x], argTypes := #[t, ti] })
    (ht : P.underlying t = some (.slice e)) (hti : P.underlying ti = some (.int k)) (hinfo : (P.info? e).map (fun i => (i.zero, i.size, i.bytes)) = some (some (.int .u8 0), 1, 1))
    (v : Value) (n : Nat) (xs : List Int) (kx : IntKind) (m : Nat) (hs : a.eval s = v) (hx : a.eval x = .int kx m)
    (HO : W.ownsRow base e 1 v xs.length (nums .u8 xs)) (HB : Below base w0 W) (hbase : base ≤ W.heap.size) (hl : (xs.length + m) * 1 ≤ 140737488355328)
    (h : ∀ v1 w1, w1.ownsRow base e 1 v1 (xs ++ List.replicate m 0).length (nums .u8 (xs ++ List.replicate m 0)) → Below base w0 w1 → W.grownBy w1 v.ownBlock → wpList P ops Q rest (a.put o.dst v1) w1) :
    wpList P ops Q (o :: rest) a W := by
  obtain ⟨i0, hi, hzz⟩ := Option.map_eq_some_iff.1 hinfo
  simp only [Prod.mk.injEq] at hzz
  obtain ⟨hz0, hz1, hz2⟩ := hzz
  obtain ⟨v1, w1, hr1, h1, hg, _⟩ := qCu (P := P) W base t ti o.type e i0 (.int .u8 0) 1 1 ht hti hi hz0 hz1 hz2 rfl (by decide) (by decide) v xs.length (nums .u8 xs) HO kx m (by rw [qD7]; intro u hu; simp [nums] at hu; rw [hu.2]; rfl) hl hbase
  refine wpList_plain hgd fun K hK => ?_
  unfold Oper.wp execOp
  simp only [ho, resolve, invoke, builtin, Sem.run_bind, Sem.run_pure, Result.andThen_ok, List.map_toArray, List.map_cons, List.map_nil, hs, hx, hr1]
  refine hK _ _ (h v1 w1 ?_ (HB.grown hg hbase (qD0 HO)) hg)
  rw [qD7] at h1
  rw [List.length_append, List.length_replicate, qDb]
  exact h1
end
structure WrAt (w : World) (base gw : Nat) (v : Value) (xs : List Int) (e : Int) : Prop where
  cell : w.heap[gw]? = some (.cells #[v, .int .i64 e] 64 (0, 0))
  row : w.ownsRow base 5 1 v xs.length (nums .u8 xs)
def KeepU (gw : Nat) (w w' : World) : Prop := ∀ k cs t, k ≠ gw → t ≠ 5 → w.heap[k]? = some (.cells cs t (0, 0)) → w'.heap[k]? = some (.cells cs t (0, 0))
theorem KeepU.trans {gw : Nat} {w w1 w2 : World} (h : KeepU gw w w1) (g : KeepU gw w1 w2) : KeepU gw w w2 := fun k cs t hk ht he => g k cs t hk ht (h k cs t hk ht he)
theorem KeepU.below {gw : Nat} {w w1 : World} (h : Below w.heap.size w w1) : KeepU gw w w1 := fun k cs t _ _ he => qAg he h
theorem KeepU.grown {gw : Nat} {w w1 : World} {base n : Nat} {v : Value} {xs : List Value} (ho : w.ownsRow base 5 1 v n xs) (hg : w.grownBy w1 v.ownBlock) : KeepU gw w w1 := fun k cs t _ ht he => (hg.block k (blk_lt he) (own_ne ho he (fun e => ht e.symm))).trans he
theorem KeepU.set (gw : Nat) (w : World) (i : Nat) (u : Value) : KeepU gw w (w.setCell ⟨gw, i, none⟩ u) := fun k cs t hk _ he => (Below.heap_setCell w ⟨gw, i, none⟩ u k hk).trans he
set_option maxHeartbeats 4000000 in
set_option maxRecDepth 100000 in
theorem qBj (base gw : Nat) (v : Value) (xs : List Int) (n : Int) (E : EntT) (w : World) (hT : Aside0 (Tabs w)) (h : WrAt w base gw v xs n) (hl : xs.length ≤ 1000000000) (hd : E.data.size ≤ 1000000) (h0 : 0 ≤ n) (hn : n ≤ 1000000) (hbase : base ≤ gw) :
    Calls Tryd.prog 93 #[.pointer (some ⟨gw, 0, none⟩), .string E.name, .int .i64 E.kind, .string E.link, .string E.data] w fun en w' => en = .returned (.tuple #[]) ∧
      ∃ v', WrAt w' base gw v' (xs ++ entryB E) (n + 1) ∧ Below base w w' ∧ KeepU gw w w' := by
  have H := Aside0.mk h
  have hbs : base ≤ w.heap.size := by
    have := blk_lt h.cell
    omega
  have z0 : w.cell? ⟨gw, 0, none⟩ = some v := (qAd h.cell 0).trans rfl
  have z1 : w.cell? ⟨gw, 1, none⟩ = some (.int .i64 n) := (qAd h.cell 1).trans rfl
  clear h
  go_enter Tryd.func93, Tryd.ntmps93
  go_wp2_with fail
  obtain ⟨⟨hs, ok⟩, hlr⟩ : ∃ r, layR E.name E.kind (E.data.size : Int) E.link = r := ⟨_, rfl⟩
  have hlm : hs.length ≤ 512 := by
    have := qDd E.name E.kind (E.data.size : Int) E.link
    rw [hlr] at this
    exact this
  have HEq := Aside0.mk (show entryB E = hs ++ (qAr E.data ++ List.replicate (padN E.data.size) 0) from by unfold entryB; rw [hlr])
  have hlay : head_Lay.f 1 E.name E.kind (E.data.size : Int) E.link = some (hs, ok) := by rw [lay_eq 0 E.name E.kind (E.data.size : Int) E.link (by omega), hlr]
  clear hlr
  refine (head_Lay.calls 1 E.name E.kind (E.data.size : Int) E.link hs ok w hT hlay).mono ?_
  rintro e w1 ⟨hv, rfl, hR, hb⟩
  clear hlay
  obtain ⟨Ah, ch, rfl, hch, hCh⟩ := Kd.R_reads hR
  have HCh := Aside0.mk hCh
  have HB1 := Aside0.mk hb
  have HW1 := Aside0.mk (ownG H.out.row hb)
  have HZ1 := Aside0.mk (qAg H.out.cell hb)
  have y0 : w1.cell? ⟨gw, 0, none⟩ = some v := (qAd HZ1.out 0).trans rfl
  have y1 : w1.cell? ⟨gw, 1, none⟩ = some (.int .i64 n) := (qAd HZ1.out 1).trans rfl
  clear hR hCh hb z0 z1
  go_wp2_with (first
    | (at_builtin; (refine qCw (w0 := w1) base rfl (.tmp 25) (.tmp 26) 30 5 .u8 1 rfl Tryd.underlying30 (by kernel_rfl) (by decide) v xs hs Ah hs.length ch rfl rfl HW1.out (Kd.reads_of_C (d := (0 : Int)) HCh.out) (Below.refl _ _) (Nat.le_trans hbs HB1.out.size) (by omega) ?_)
       intro v2 w2 ho2 hb2 hg2 _
       have HO2 := Aside0.mk ho2
       have HK2 := Aside0.mk (KeepU.grown (gw := gw) HW1.out hg2)
       have HB2 := Aside0.mk hb2
       have HZ2 := Aside0.mk ((hg2.block gw (blk_lt HZ1.out) (own_ne HW1.out HZ1.out (by decide))).trans HZ1.out)
       have hs2 : w1.heap.size ≤ w2.heap.size := hg2.size
       clear ho2 hb2 hg2 y0 y1)
    | (at_builtin; (refine qCv (w0 := w1) base rfl (.tmp 27) (.tmp 28) 30 9 5 rfl Tryd.underlying30 Tryd.underlying9 (by kernel_rfl) v2 (xs ++ hs) E.data rfl rfl HO2.out HB2.out (Nat.le_trans hbs (Nat.le_trans HB1.out.size hs2)) (by rw [List.length_append]; omega) ?_)
       intro v3 w3 ho3 hb3 hg3
       generalize hys : xs ++ hs ++ qAr E.data = ys at ho3
       have HYS := Aside0.mk hys
       have hyl : ys.length ≤ 1002000000 := by
         rw [← hys]
         simp only [List.length_append, qAw]
         omega
       clear hys
       have HO3 := Aside0.mk ho3
       have HK3 := Aside0.mk (HK2.out.trans (KeepU.grown (gw := gw) HO2.out hg3))
       have HB3 := Aside0.mk hb3
       have HZ3 := Aside0.mk ((hg3.block gw (blk_lt HZ2.out) (own_ne HO2.out HZ2.out (by decide))).trans HZ2.out)
       have hs3 : w2.heap.size ≤ w3.heap.size := hg3.size
       have y0 : w3.cell? ⟨gw, 0, none⟩ = some v := (qAd HZ3.out 0).trans rfl
       have y1 : w3.cell? ⟨gw, 1, none⟩ = some (.int .i64 n) := (qAd HZ3.out 1).trans rfl
       obtain ⟨a3, b3, rfl⟩ := qEf ho3
       have hfz := fun k => qAf HZ3.out k
       have HZ4 := Aside0.mk (show (w3.setCell ⟨gw, 0, none⟩ (.slice a3 ys.length b3)).heap[gw]? = some (.cells #[.slice a3 ys.length b3, .int .i64 n] 64 (0, 0)) from qD5 HZ3.out 0 _)
       have x0 := (show (w3.setCell ⟨gw, 0, none⟩ (.slice a3 ys.length b3)).cell? ⟨gw, 0, none⟩ = some (.slice a3 ys.length b3) from (qAd HZ4.out 0).trans rfl)
       have HO4 := Aside0.mk (qCy (w1 := w3.setCell ⟨gw, 0, none⟩ (.slice a3 ys.length b3)) ho3 (fun k hk => Below.heap_setCell w3 ⟨gw, 0, none⟩ _ k (fun e => own_ne ho3 HZ3.out (by decide) (by rw [hk, e]))))
       have HB4 := Aside0.mk (show Below base w1 (w3.setCell ⟨gw, 0, none⟩ (.slice a3 ys.length b3)) from ⟨hb3.os, hb3.tape, hb3.output, by rw [sizeG]; exact hb3.size, fun k hk => (Below.heap_setCell w3 ⟨gw, 0, none⟩ _ k (by show k ≠ gw; omega)).trans (hb3.block k hk)⟩)
       clear ho3 hb3 hg3)
    | (at_builtin; (refine qCh (w0 := w1) base rfl (.tmp 36) (.tmp 41) 30 3 5 rfl Tryd.underlying30 Tryd.underlying3 (by kernel_rfl) (.slice a3 ys.length b3) 0 ys .i64 (padN E.data.size) (by first | rfl | (show Value.slice _ _ _ = _; simp)) (by show Value.int _ _ = _; congr 1; unfold padN; omega) HO4.out HB4.out (by rw [sizeG]; exact Nat.le_trans hbs (Nat.le_trans HB1.out.size (Nat.le_trans hs2 hs3))) (by unfold padN; omega) ?_)
       intro v5 w5 ho5 hb5 hg5
       generalize hzs : ys ++ List.replicate (padN E.data.size) 0 = zs at ho5
       have HZS := Aside0.mk hzs
       clear hzs
       obtain ⟨a5, b5, rfl⟩ := qEf ho5
       have HZ5 := Aside0.mk ((hg5.block gw (blk_lt HZ4.out) (own_ne HO4.out HZ4.out (by decide))).trans HZ4.out)
       have hfz5 := fun k => qAf HZ5.out k
       have HZ6 := Aside0.mk (show (w5.setCell ⟨gw, 0, none⟩ (.slice a5 zs.length b5)).heap[gw]? = some (.cells #[.slice a5 zs.length b5, .int .i64 n] 64 (0, 0)) from qD5 HZ5.out 0 _)
       have hfz6 := fun k => qAf HZ6.out k
       have u0 := (show w5.cell? ⟨gw, 0, none⟩ = some (.slice a3 ys.length b3) from (qAd HZ5.out 0).trans rfl)
       have u1 := (show (w5.setCell ⟨gw, 0, none⟩ (.slice a5 zs.length b5)).cell? ⟨gw, 1, none⟩ = some (.int .i64 n) from (qAd HZ6.out 1).trans rfl)
       have HO5 := Aside0.mk ho5
       have HK5 := Aside0.mk ((HK3.out.trans (KeepU.set gw w3 0 (.slice a3 ys.length b3))).trans (KeepU.grown (gw := gw) HO4.out hg5))
       have HB5 := Aside0.mk hb5
       clear ho5 hb5 hg5)
    | (at_builtin; fail))
  go_end0
  have HXS := Aside0.mk (show zs = xs ++ entryB E from by
    rw [← HZS.out, ← HYS.out, HEq.out]
    simp)
  have HC7 := qD5 HZ6.out 1 (.int .i64 (n + 1))
  have HO6 := qCy (w1 := w5.setCell ⟨gw, 0, none⟩ (.slice a5 zs.length b5)) HO5.out (fun k hk => Below.heap_setCell w5 ⟨gw, 0, none⟩ _ k (fun e => own_ne HO5.out HZ5.out (by decide) (by rw [hk, e])))
  have HO7 := qCy (w1 := (w5.setCell ⟨gw, 0, none⟩ (.slice a5 zs.length b5)).setCell ⟨gw, 1, none⟩ (.int .i64 (n + 1))) HO6 (fun k hk => Below.heap_setCell _ ⟨gw, 1, none⟩ _ k (fun e => own_ne HO6 HZ6.out (by decide) (by rw [hk, e])))
  rw [← HXS.out]
  refine ⟨rfl, .slice a5 zs.length b5, ⟨HC7, HO7⟩, ?_⟩
  have hb5 := HB5.out
  have hb1 := HB1.out
  refine ⟨?_, (KeepU.below hb1).trans (HK5.out.trans ((KeepU.set gw w5 0 _).trans (KeepU.set gw _ 1 _)))⟩
  refine ⟨hb5.os.trans hb1.os, hb5.tape.trans hb1.tape, hb5.output.trans hb1.output, ?_, fun k hk => ?_⟩
  · rw [sizeG, sizeG]
    exact Nat.le_trans hb1.size hb5.size
  · refine (Below.heap_setCell _ ⟨gw, 1, none⟩ _ k (by show k ≠ gw; omega)).trans ((Below.heap_setCell _ ⟨gw, 0, none⟩ _ k (by show k ≠ gw; omega)).trans ((hb5.block k hk).trans (hb1.block k (by omega))))
end Go.Proofs.YtdijnmcfpbceaaaDoor.X

namespace Go.Proofs.YtdijnmcfpbceaaaDoor.X
open Go.RowKit Go.Proofs.YtdijnmcfpbceaaaDoorW.PrintWords Go.Proofs.YtdijnmcfpbceaaaDoorW.PrintLast Go.Proofs.YtdijnmcfpbceaaaDoorW.PrintMore Go.Proofs.YtdijnmcfpbceaaaDoor.P
set_option linter.unusedVariables false
set_option linter.unusedSimpArgs false
theorem qDe (n : S29) (h0 : n.f0.size ≤ 1000) (h2 : n.f2.size ≤ 1000) : (extraN n).size ≤ 6000 := by
  have hr : ∀ a b : ByteArray, a.size ≤ 10 → b.size ≤ 1000 → (recT a b).size ≤ 3000 := fun a b ha hb => by
    rw [qDy, ByteArray.size_append, qCe, qB2]
    have h1 := qDc 5 (recM (a.size + b.size + 3)) (by
      have h2 := (qC8 (a.size + b.size + 3) (by omega)).2
      have : (10 : Nat) ^ (5 + 1) = 1000000 := by decide
      omega)
    omega
  have hn : (nameN n).size ≤ 1000 := by
    unfold nameN
    split
    · exact (by decide : (⟨#[46]⟩ : ByteArray).size ≤ 1000)
    · exact h0
  have e0 : (⟨#[]⟩ : ByteArray).size = 0 := rfl
  unfold extraN
  rw [ByteArray.size_append]
  have a := hr ⟨#[112, 97, 116, 104]⟩ (nameN n) (by decide) hn
  have b := hr ⟨#[108, 105, 110, 107, 112, 97, 116, 104]⟩ n.f2 (by decide) h2
  split <;> split <;> omega
theorem qCl (e : EntT) : (entryB e).length ≤ 512 + e.data.size + 512 := by
  have := qDd e.name e.kind (e.data.size : Int) e.link
  unfold entryB padN
  rw [List.length_append, List.length_append, List.length_replicate, qAw]
  omega
theorem WrAt.below {w w1 : World} {base gw : Nat} {v : Value} {xs : List Int} {e : Int} (h : WrAt w base gw v xs e) (hb : Below w.heap.size w w1) : WrAt w1 base gw v xs e := ⟨qAg h.cell hb, ownG h.row hb⟩
theorem qC1 {w1 w2 w3 : World} {base : Nat} (h : Below w1.heap.size w1 w2) (g : Below base w2 w3) (hb : base ≤ w1.heap.size) : Below base w1 w3 :=
  ⟨g.os.trans h.os, g.tape.trans h.tape, g.output.trans h.output, Nat.le_trans h.size g.size, fun k hk => (g.block k hk).trans (h.block k (by omega))⟩
theorem qBn {w0 w1 w2 : World} (h : Below w0.heap.size w0 w1) (g : Below w0.heap.size w1 w2) : Below w0.heap.size w0 w2 :=
  ⟨g.os.trans h.os, g.tape.trans h.tape, g.output.trans h.output, Nat.le_trans h.size g.size, fun k hk => (g.block k hk).trans (h.block k hk)⟩
set_option maxHeartbeats 4000000 in
set_option maxRecDepth 100000 in
theorem qFj (w0 : World) (gw : Nat) (v : Value) (xs : List Int) (c : Int) (n : S29) (w : World) (hT : Aside0 (Tabs w0)) (hB0 : Below w0.heap.size w0 w) (h : WrAt w w0.heap.size gw v xs c) (hl : xs.length ≤ 900000000) (h0 : n.f0.size ≤ 1000) (h2 : n.f2.size ≤ 1000) (hc0 : 0 ≤ c) (hc : c ≤ 900000) (hbase : w0.heap.size ≤ gw) :
    Calls Tryd.prog 56 #[.pointer (some ⟨gw, 0, none⟩), .agg #[.string n.f0, .int .i64 n.f1, .string n.f2]] w fun en w' => en = .returned (.tuple #[]) ∧
      ∃ v', WrAt w' w0.heap.size gw v' (xs ++ (entsN n).flatMap entryB) (c + ((entsN n).length : Nat)) ∧ Below w0.heap.size w0 w' ∧ KeepU gw w w' := by
  have H := Aside0.mk h
  have HB0 := Aside0.mk hB0
  have hgn : gw ≠ w.heap.size := by
    have := blk_lt h.cell
    omega
  have HE := Aside0.mk (qG3 n h0 h2)
  have HN := Aside0.mk (qF7 n)
  have HC1 := Aside0.mk (cut_eq (nameN n))
  have HC2 := Aside0.mk (cut_eq n.f2)
  have hes := qDe n h0 h2
  clear h hB0
  go_enter Tryd.func56, Tryd.ntmps56
  go_wp2_with fail
  refine (tar_extra.calls n.f0 n.f1 n.f2 (extraN n) _ ⟨Tabs.below hT.out (qAb HB0.out _)⟩ HE.out).mono ?_
  rintro e Wn ⟨rfl, hb1⟩
  have HBw := Aside0.mk (qAe (qAb (Below.refl w.heap.size w) (.cells #[.string n.f0, .int .i64 n.f1, .string n.f2] 29)) hb1)
  have HB := Aside0.mk (qAe HB0.out HBw.out)
  have HG := Aside0.mk (qAg (qB0 w (.cells #[.string n.f0, .int .i64 n.f1, .string n.f2] 29)) hb1)
  have HW := Aside0.mk (H.out.below HBw.out)
  have HKn := Aside0.mk (KeepU.below (gw := gw) HBw.out)
  generalize w.heap.size = gn at HG hgn
  clear hb1 H HE HBw
  obtain ⟨b0, hb0⟩ : ∃ b, ((extraN n).toList != []) = b := ⟨_, rfl⟩
  obtain ⟨b4, hb4⟩ : ∃ b, (n.f1 == 4) = b := ⟨_, rfl⟩
  have hb4d : decide (n.f1 = 4) = b4 := by rw [← hb4]; rfl
  have HX0 := Aside0.mk hb0
  generalize hex : extraN n = ex at *
  have HEX := Aside0.mk hex
  clear hex
  have hb0a : (ex.toList == []) = !b0 := by rw [← hb0]; simp [bne]
  have z1 := (show Wn.cell? ⟨gn, 1, none⟩ = some (.int .i64 n.f1) from (qAd HG.out 1).trans rfl)
  cases b0 with
  | false =>
    have HX := Aside0.mk (show (if ex.size = 0 then ([] : List EntT) else [⟨⟨#[112, 97, 120]⟩, 5, ⟨#[]⟩, ex⟩]) = [] from if_pos ((qAu _).1 (bne_eq_false_iff_eq.1 HX0.out)))
    cases b4 with
    | true =>
      go_wp2_with fail
      refine start_ (n := 10) (S := fun w' => Below Wn.heap.size Wn w') (ds := [9]) (bmG 10 0) (by kernel_rfl) rfl (by kernel_rfl) (qAc (Below.refl Wn.heap.size Wn)) (fun hS => ?_)
      generalize Wn.drew = wd at hS ⊢
      refine pure_ (i := 0) (N := some 15) (v := ?_) (a' := ?_) (bmG 10 1) rfl rfl (by kernel_rfl) (fun _ _ _ h => h) (Or.inl ⟨by rfl, ?_⟩) ?_ ?_
      rotate_left
      · intro w'
        go_simp
        with_reducible rfl
      rotate_left
      · simp only [Act.put, List.setIfInBounds_toArray, List.set_cons_zero, List.set_cons_succ, i64_w, i32_w]
        rfl
      refine take_ (i := 1) (N := some 16) (v := ?_) (a' := ?_) (bmG 10 3) rfl rfl (by kernel_rfl) (fun _ _ _ h => h) (Or.inl ⟨by rfl, ?_⟩) hS ?_ ?_
      rotate_left
      · intro w' hS
        have s0 := (show w'.cell? ⟨gn, 0, none⟩ = some (.string n.f0) from (qAd (qAg HG.out hS) 0).trans rfl)
        have s1 := (show w'.cell? ⟨gn, 1, none⟩ = some (.int .i64 n.f1) from (qAd (qAg HG.out hS) 1).trans rfl)
        have s2 := (show w'.cell? ⟨gn, 2, none⟩ = some (.string n.f2) from (qAd (qAg HG.out hS) 2).trans rfl)
        go_simp
        with_reducible rfl
      rotate_left
      · simp only [Act.put, List.setIfInBounds_toArray, List.set_cons_zero, List.set_cons_succ, i64_w, i32_w]
        rfl
      refine pure_ (i := 4) (N := some 19) (v := ?_) (a' := ?_) (bmG 10 19) rfl rfl (by kernel_rfl) (fun _ _ _ h => h) (Or.inl ⟨by rfl, ?_⟩) ?_ ?_
      rotate_left
      · intro w'
        go_simp
        with_reducible rfl
      rotate_left
      · simp only [Act.put, List.setIfInBounds_toArray, List.set_cons_zero, List.set_cons_succ, i64_w, i32_w]
        rfl
      refine take_ (i := 5) (N := some 20) (v := ?_) (a' := ?_) (bmG 10 51) rfl rfl (by kernel_rfl) (fun _ _ _ h => h) (Or.inl ⟨by rfl, ?_⟩) hS ?_ ?_
      rotate_left
      · intro w' hS
        have s0 := (show w'.cell? ⟨gn, 0, none⟩ = some (.string n.f0) from (qAd (qAg HG.out hS) 0).trans rfl)
        have s1 := (show w'.cell? ⟨gn, 1, none⟩ = some (.int .i64 n.f1) from (qAd (qAg HG.out hS) 1).trans rfl)
        have s2 := (show w'.cell? ⟨gn, 2, none⟩ = some (.string n.f2) from (qAd (qAg HG.out hS) 2).trans rfl)
        go_simp
        with_reducible rfl
      rotate_left
      · simp only [Act.put, List.setIfInBounds_toArray, List.set_cons_zero, List.set_cons_succ, i64_w, i32_w]
        rfl
      refine pure_ (i := 6) (N := some 21) (v := ?_) (a' := ?_) (bmG 10 115) rfl rfl (by kernel_rfl) (fun _ _ _ h => h) (Or.inl ⟨by rfl, ?_⟩) ?_ ?_
      rotate_left
      · intro w'
        go_simp
        with_reducible rfl
      rotate_left
      · simp only [Act.put, List.setIfInBounds_toArray, List.set_cons_zero, List.set_cons_succ, i64_w, i32_w]
        rfl
      refine take_ (i := 7) (N := some 22) (v := ?_) (a' := ?_) (bmG 10 243) rfl rfl (by kernel_rfl) (fun _ _ _ h => h) (Or.inl ⟨by rfl, ?_⟩) hS ?_ ?_
      rotate_left
      · intro w' hS
        have s0 := (show w'.cell? ⟨gn, 0, none⟩ = some (.string n.f0) from (qAd (qAg HG.out hS) 0).trans rfl)
        have s1 := (show w'.cell? ⟨gn, 1, none⟩ = some (.int .i64 n.f1) from (qAd (qAg HG.out hS) 1).trans rfl)
        have s2 := (show w'.cell? ⟨gn, 2, none⟩ = some (.string n.f2) from (qAd (qAg HG.out hS) 2).trans rfl)
        go_simp
        with_reducible rfl
      rotate_left
      · simp only [Act.put, List.setIfInBounds_toArray, List.set_cons_zero, List.set_cons_succ, i64_w, i32_w]
        rfl
      refine one_ (i := 2) (N := some 17) (bmG 10 247) rfl rfl (by kernel_rfl) (by decide) (fun Kz hKz => ?_)
      refine goes_ Tryd.func95 (by kernel_rfl) rfl #[.agg #[.string n.f0, .int .i64 n.f1, .string n.f2]] (by rfl) rfl rfl (by (try simp only [List.map_toArray, List.map_cons, List.map_nil]); first | done | rfl) ?_
      refine (tar_name.calls n.f0 n.f1 n.f2 _ _ HN.out).mono ?_
      rintro e wc ⟨rfl, hb⟩
      refine ⟨_, rfl, ?_⟩
      refine hKz.out _ _ (qAe hS hb) (fun hS => ?_)
      clear hKz Kz
      refine norm_ (a' := ?_) ?_ ?_
      rotate_left
      · show Act.put _ (some 17) _ = _
        simp only [Act.put, List.setIfInBounds_toArray, List.set_cons_zero, List.set_cons_succ, i64_w, i32_w]
        rfl
      refine one_ (i := 3) (N := some 18) (bmG 10 255) rfl rfl (by kernel_rfl) (by decide) (fun Kz hKz => ?_)
      refine goes_ Tryd.func94 (by kernel_rfl) rfl #[.string (nameN n)] (by rfl) rfl rfl (by (try simp only [List.map_toArray, List.map_cons, List.map_nil]); first | done | rfl) ?_
      refine (tar_cut.calls (nameN n) _ _ HC1.out).mono ?_
      rintro e wc ⟨rfl, hb⟩
      refine ⟨_, rfl, ?_⟩
      refine hKz.out _ _ (qAe hS hb) (fun hS => ?_)
      clear hKz Kz
      refine norm_ (a' := ?_) ?_ ?_
      rotate_left
      · show Act.put _ (some 18) _ = _
        simp only [Act.put, List.setIfInBounds_toArray, List.set_cons_zero, List.set_cons_succ, i64_w, i32_w]
        rfl
      refine one_ (i := 8) (N := some 23) (bmG 10 511) rfl rfl (by kernel_rfl) (by decide) (fun Kz hKz => ?_)
      refine goes_ Tryd.func94 (by kernel_rfl) rfl #[.string n.f2] (by rfl) rfl rfl (by (try simp only [List.map_toArray, List.map_cons, List.map_nil]); first | done | rfl) ?_
      refine (tar_cut.calls n.f2 _ _ HC2.out).mono ?_
      rintro e wc ⟨rfl, hb⟩
      refine ⟨_, rfl, ?_⟩
      refine hKz.out _ _ (qAe hS hb) (fun hS => ?_)
      clear hKz Kz
      refine norm_ (a' := ?_) ?_ ?_
      rotate_left
      · show Act.put _ (some 23) _ = _
        simp only [Act.put, List.setIfInBounds_toArray, List.set_cons_zero, List.set_cons_succ, i64_w, i32_w]
        rfl
      refine last_ (i := 9) (N := some 24) (bmG 10 1023) rfl rfl (by kernel_rfl) (by decide) (fun Kz hKz => ?_)
      refine goes_ Tryd.func93 (by kernel_rfl) rfl #[.pointer (some ⟨gw, 0, none⟩), .string (cutS (nameN n)), .int .i64 n.f1, .string (cutS n.f2), .string ⟨#[]⟩] (by rfl) rfl rfl (by (try simp only [List.map_toArray, List.map_cons, List.map_nil]); first | done | rfl) ?_
      refine (qBj w0.heap.size gw v xs c ⟨cutS (nameN n), n.f1, cutS n.f2, ⟨#[]⟩⟩ _ ⟨Tabs.below hT.out (qAe HB.out hS)⟩ (HW.out.below hS) (by omega) (show (0 : Nat) ≤ 1000000 from by decide) hc0 (by omega) hbase).mono ?_
      rintro e wc ⟨rfl, v9, hw9, hb9, hk9⟩
      refine ⟨_, rfl, ?_⟩
      refine hKz.out _ _ ?_
      clear hKz Kz
      refine norm_ (a' := ?_) ?_ ?_
      rotate_left
      · show Act.put _ (some 24) _ = _
        simp only [Act.put, List.setIfInBounds_toArray, List.set_cons_zero, List.set_cons_succ, i64_w, i32_w]
        rfl
      refine done_ (by kernel_rfl) ?_
      have HEN := Aside0.mk (show entsN n = [⟨cutS (nameN n), n.f1, cutS n.f2, ⟨#[]⟩⟩] from by
        unfold entsN
        rw [HEX.out, HX.out, show ownE n = ⟨cutS (nameN n), n.f1, cutS n.f2, ⟨#[]⟩⟩ from if_pos (by simpa using hb4)]
        rfl)
      have HBF := Aside0.mk (qBn HB.out (qC1 hS hb9 HB.out.size))
      have HW9 := Aside0.mk hw9
      have HK9 := Aside0.mk (HKn.out.trans ((KeepU.below hS).trans hk9))
      clear hw9 hb9 hk9
      go_wp2_with fail
      first | go_end0 | ((try simp only [Exit.inBlock, Exit.then]); refine bodyPost_ret (results_none rfl _ _ _) rfl ?_)
      refine ⟨rfl, v9, ?_, HBF.out, HK9.out⟩
      rw [HEN.out]
      have h9 := HW9.out
      simpa [List.append_assoc, Int.add_assoc] using h9
    | false =>
      go_wp2_with fail
      refine start_ (n := 9) (S := fun w' => Below Wn.heap.size Wn w') (ds := [8]) (bmG 9 0) (by kernel_rfl) rfl (by kernel_rfl) (qAc (Below.refl Wn.heap.size Wn)) (fun hS => ?_)
      generalize Wn.drew = wd at hS ⊢
      refine pure_ (i := 0) (N := some 25) (v := ?_) (a' := ?_) (bmG 9 1) rfl rfl (by kernel_rfl) (fun _ _ _ h => h) (Or.inl ⟨by rfl, ?_⟩) ?_ ?_
      rotate_left
      · intro w'
        go_simp
        with_reducible rfl
      rotate_left
      · simp only [Act.put, List.setIfInBounds_toArray, List.set_cons_zero, List.set_cons_succ, i64_w, i32_w]
        rfl
      refine take_ (i := 1) (N := some 26) (v := ?_) (a' := ?_) (bmG 9 3) rfl rfl (by kernel_rfl) (fun _ _ _ h => h) (Or.inl ⟨by rfl, ?_⟩) hS ?_ ?_
      rotate_left
      · intro w' hS
        have s0 := (show w'.cell? ⟨gn, 0, none⟩ = some (.string n.f0) from (qAd (qAg HG.out hS) 0).trans rfl)
        have s1 := (show w'.cell? ⟨gn, 1, none⟩ = some (.int .i64 n.f1) from (qAd (qAg HG.out hS) 1).trans rfl)
        have s2 := (show w'.cell? ⟨gn, 2, none⟩ = some (.string n.f2) from (qAd (qAg HG.out hS) 2).trans rfl)
        go_simp
        with_reducible rfl
      rotate_left
      · simp only [Act.put, List.setIfInBounds_toArray, List.set_cons_zero, List.set_cons_succ, i64_w, i32_w]
        rfl
      refine pure_ (i := 4) (N := some 29) (v := ?_) (a' := ?_) (bmG 9 19) rfl rfl (by kernel_rfl) (fun _ _ _ h => h) (Or.inl ⟨by rfl, ?_⟩) ?_ ?_
      rotate_left
      · intro w'
        go_simp
        with_reducible rfl
      rotate_left
      · simp only [Act.put, List.setIfInBounds_toArray, List.set_cons_zero, List.set_cons_succ, i64_w, i32_w]
        rfl
      refine take_ (i := 5) (N := some 30) (v := ?_) (a' := ?_) (bmG 9 51) rfl rfl (by kernel_rfl) (fun _ _ _ h => h) (Or.inl ⟨by rfl, ?_⟩) hS ?_ ?_
      rotate_left
      · intro w' hS
        have s0 := (show w'.cell? ⟨gn, 0, none⟩ = some (.string n.f0) from (qAd (qAg HG.out hS) 0).trans rfl)
        have s1 := (show w'.cell? ⟨gn, 1, none⟩ = some (.int .i64 n.f1) from (qAd (qAg HG.out hS) 1).trans rfl)
        have s2 := (show w'.cell? ⟨gn, 2, none⟩ = some (.string n.f2) from (qAd (qAg HG.out hS) 2).trans rfl)
        go_simp
        with_reducible rfl
      rotate_left
      · simp only [Act.put, List.setIfInBounds_toArray, List.set_cons_zero, List.set_cons_succ, i64_w, i32_w]
        rfl
      refine pure_ (i := 6) (N := some 31) (v := ?_) (a' := ?_) (bmG 9 115) rfl rfl (by kernel_rfl) (fun _ _ _ h => h) (Or.inl ⟨by rfl, ?_⟩) ?_ ?_
      rotate_left
      · intro w'
        go_simp
        with_reducible rfl
      rotate_left
      · simp only [Act.put, List.setIfInBounds_toArray, List.set_cons_zero, List.set_cons_succ, i64_w, i32_w]
        rfl
      refine take_ (i := 7) (N := some 32) (v := ?_) (a' := ?_) (bmG 9 243) rfl rfl (by kernel_rfl) (fun _ _ _ h => h) (Or.inl ⟨by rfl, ?_⟩) hS ?_ ?_
      rotate_left
      · intro w' hS
        have s0 := (show w'.cell? ⟨gn, 0, none⟩ = some (.string n.f0) from (qAd (qAg HG.out hS) 0).trans rfl)
        have s1 := (show w'.cell? ⟨gn, 1, none⟩ = some (.int .i64 n.f1) from (qAd (qAg HG.out hS) 1).trans rfl)
        have s2 := (show w'.cell? ⟨gn, 2, none⟩ = some (.string n.f2) from (qAd (qAg HG.out hS) 2).trans rfl)
        go_simp
        with_reducible rfl
      rotate_left
      · simp only [Act.put, List.setIfInBounds_toArray, List.set_cons_zero, List.set_cons_succ, i64_w, i32_w]
        rfl
      refine one_ (i := 2) (N := some 27) (bmG 9 247) rfl rfl (by kernel_rfl) (by decide) (fun Kz hKz => ?_)
      refine goes_ Tryd.func95 (by kernel_rfl) rfl #[.agg #[.string n.f0, .int .i64 n.f1, .string n.f2]] (by rfl) rfl rfl (by (try simp only [List.map_toArray, List.map_cons, List.map_nil]); first | done | rfl) ?_
      refine (tar_name.calls n.f0 n.f1 n.f2 _ _ HN.out).mono ?_
      rintro e wc ⟨rfl, hb⟩
      refine ⟨_, rfl, ?_⟩
      refine hKz.out _ _ (qAe hS hb) (fun hS => ?_)
      clear hKz Kz
      refine norm_ (a' := ?_) ?_ ?_
      rotate_left
      · show Act.put _ (some 27) _ = _
        simp only [Act.put, List.setIfInBounds_toArray, List.set_cons_zero, List.set_cons_succ, i64_w, i32_w]
        rfl
      refine one_ (i := 3) (N := some 28) (bmG 9 255) rfl rfl (by kernel_rfl) (by decide) (fun Kz hKz => ?_)
      refine goes_ Tryd.func94 (by kernel_rfl) rfl #[.string (nameN n)] (by rfl) rfl rfl (by (try simp only [List.map_toArray, List.map_cons, List.map_nil]); first | done | rfl) ?_
      refine (tar_cut.calls (nameN n) _ _ HC1.out).mono ?_
      rintro e wc ⟨rfl, hb⟩
      refine ⟨_, rfl, ?_⟩
      refine hKz.out _ _ (qAe hS hb) (fun hS => ?_)
      clear hKz Kz
      refine norm_ (a' := ?_) ?_ ?_
      rotate_left
      · show Act.put _ (some 28) _ = _
        simp only [Act.put, List.setIfInBounds_toArray, List.set_cons_zero, List.set_cons_succ, i64_w, i32_w]
        rfl
      refine last_ (i := 8) (N := some 33) (bmG 9 511) rfl rfl (by kernel_rfl) (by decide) (fun Kz hKz => ?_)
      refine goes_ Tryd.func93 (by kernel_rfl) rfl #[.pointer (some ⟨gw, 0, none⟩), .string (cutS (nameN n)), .int .i64 n.f1, .string ⟨#[]⟩, .string n.f2] (by rfl) rfl rfl (by (try simp only [List.map_toArray, List.map_cons, List.map_nil]); first | done | rfl) ?_
      refine (qBj w0.heap.size gw v xs c ⟨cutS (nameN n), n.f1, ⟨#[]⟩, n.f2⟩ _ ⟨Tabs.below hT.out (qAe HB.out hS)⟩ (HW.out.below hS) (by omega) (by show n.f2.size ≤ 1000000; omega) hc0 (by omega) hbase).mono ?_
      rintro e wc ⟨rfl, v9, hw9, hb9, hk9⟩
      refine ⟨_, rfl, ?_⟩
      refine hKz.out _ _ ?_
      clear hKz Kz
      refine norm_ (a' := ?_) ?_ ?_
      rotate_left
      · show Act.put _ (some 33) _ = _
        simp only [Act.put, List.setIfInBounds_toArray, List.set_cons_zero, List.set_cons_succ, i64_w, i32_w]
        rfl
      refine done_ (by kernel_rfl) ?_
      have HEN := Aside0.mk (show entsN n = [⟨cutS (nameN n), n.f1, ⟨#[]⟩, n.f2⟩] from by
        unfold entsN
        rw [HEX.out, HX.out, show ownE n = ⟨cutS (nameN n), n.f1, ⟨#[]⟩, n.f2⟩ from if_neg (by simpa using hb4)]
        rfl)
      have HBF := Aside0.mk (qBn HB.out (qC1 hS hb9 HB.out.size))
      have HW9 := Aside0.mk hw9
      have HK9 := Aside0.mk (HKn.out.trans ((KeepU.below hS).trans hk9))
      clear hw9 hb9 hk9
      go_wp2_with fail
      first | go_end0 | ((try simp only [Exit.inBlock, Exit.then]); refine bodyPost_ret (results_none rfl _ _ _) rfl ?_)
      refine ⟨rfl, v9, ?_, HBF.out, HK9.out⟩
      rw [HEN.out]
      have h9 := HW9.out
      simpa [List.append_assoc, Int.add_assoc] using h9
  | true =>
    have HX := Aside0.mk (show (if ex.size = 0 then ([] : List EntT) else [⟨⟨#[112, 97, 120]⟩, 5, ⟨#[]⟩, ex⟩]) = [⟨⟨#[112, 97, 120]⟩, 5, ⟨#[]⟩, ex⟩] from if_neg (fun e => (bne_iff_ne.1 HX0.out) ((qAu _).2 e)))
    go_wp2_with fail
    refine (qBj w0.heap.size gw v xs c ⟨⟨#[112, 97, 120]⟩, 5, ⟨#[]⟩, ex⟩ Wn ⟨Tabs.below hT.out HB.out⟩ HW.out (by omega) (by show ex.size ≤ 1000000; omega) hc0 (by omega) hbase).mono ?_
    rintro e Wm ⟨rfl, vm, hwm, hbm, hkm⟩
    have HBm := Aside0.mk (qBn HB.out hbm)
    have HGm := Aside0.mk (hkm gn _ _ (fun e => hgn e.symm) (by decide) HG.out)
    have HWm := Aside0.mk hwm
    have HKm := Aside0.mk (HKn.out.trans hkm)
    have hlm := qCl ⟨⟨#[112, 97, 120]⟩, 5, ⟨#[]⟩, ex⟩
    have hlm2 : (xs ++ entryB ⟨⟨#[112, 97, 120]⟩, 5, ⟨#[]⟩, ex⟩).length ≤ 1000000000 := by
      rw [List.length_append]
      have : (⟨⟨#[112, 97, 120]⟩, 5, ⟨#[]⟩, ex⟩ : EntT).data.size = ex.size := rfl
      omega
    clear hwm hbm hkm HB HG HW HKn z1 hlm
    have z1 := (show Wm.cell? ⟨gn, 1, none⟩ = some (.int .i64 n.f1) from (qAd HGm.out 1).trans rfl)
    cases b4 with
    | true =>
      go_wp2_with fail
      refine start_ (n := 10) (S := fun w' => Below Wm.heap.size Wm w') (ds := [9]) (bmG 10 0) (by kernel_rfl) rfl (by kernel_rfl) (qAc (Below.refl Wm.heap.size Wm)) (fun hS => ?_)
      generalize Wm.drew = wd at hS ⊢
      refine pure_ (i := 0) (N := some 15) (v := ?_) (a' := ?_) (bmG 10 1) rfl rfl (by kernel_rfl) (fun _ _ _ h => h) (Or.inl ⟨by rfl, ?_⟩) ?_ ?_
      rotate_left
      · intro w'
        go_simp
        with_reducible rfl
      rotate_left
      · simp only [Act.put, List.setIfInBounds_toArray, List.set_cons_zero, List.set_cons_succ, i64_w, i32_w]
        rfl
      refine take_ (i := 1) (N := some 16) (v := ?_) (a' := ?_) (bmG 10 3) rfl rfl (by kernel_rfl) (fun _ _ _ h => h) (Or.inl ⟨by rfl, ?_⟩) hS ?_ ?_
      rotate_left
      · intro w' hS
        have s0 := (show w'.cell? ⟨gn, 0, none⟩ = some (.string n.f0) from (qAd (qAg HGm.out hS) 0).trans rfl)
        have s1 := (show w'.cell? ⟨gn, 1, none⟩ = some (.int .i64 n.f1) from (qAd (qAg HGm.out hS) 1).trans rfl)
        have s2 := (show w'.cell? ⟨gn, 2, none⟩ = some (.string n.f2) from (qAd (qAg HGm.out hS) 2).trans rfl)
        go_simp
        with_reducible rfl
      rotate_left
      · simp only [Act.put, List.setIfInBounds_toArray, List.set_cons_zero, List.set_cons_succ, i64_w, i32_w]
        rfl
      refine pure_ (i := 4) (N := some 19) (v := ?_) (a' := ?_) (bmG 10 19) rfl rfl (by kernel_rfl) (fun _ _ _ h => h) (Or.inl ⟨by rfl, ?_⟩) ?_ ?_
      rotate_left
      · intro w'
        go_simp
        with_reducible rfl
      rotate_left
      · simp only [Act.put, List.setIfInBounds_toArray, List.set_cons_zero, List.set_cons_succ, i64_w, i32_w]
        rfl
      refine take_ (i := 5) (N := some 20) (v := ?_) (a' := ?_) (bmG 10 51) rfl rfl (by kernel_rfl) (fun _ _ _ h => h) (Or.inl ⟨by rfl, ?_⟩) hS ?_ ?_
      rotate_left
      · intro w' hS
        have s0 := (show w'.cell? ⟨gn, 0, none⟩ = some (.string n.f0) from (qAd (qAg HGm.out hS) 0).trans rfl)
        have s1 := (show w'.cell? ⟨gn, 1, none⟩ = some (.int .i64 n.f1) from (qAd (qAg HGm.out hS) 1).trans rfl)
        have s2 := (show w'.cell? ⟨gn, 2, none⟩ = some (.string n.f2) from (qAd (qAg HGm.out hS) 2).trans rfl)
        go_simp
        with_reducible rfl
      rotate_left
      · simp only [Act.put, List.setIfInBounds_toArray, List.set_cons_zero, List.set_cons_succ, i64_w, i32_w]
        rfl
      refine pure_ (i := 6) (N := some 21) (v := ?_) (a' := ?_) (bmG 10 115) rfl rfl (by kernel_rfl) (fun _ _ _ h => h) (Or.inl ⟨by rfl, ?_⟩) ?_ ?_
      rotate_left
      · intro w'
        go_simp
        with_reducible rfl
      rotate_left
      · simp only [Act.put, List.setIfInBounds_toArray, List.set_cons_zero, List.set_cons_succ, i64_w, i32_w]
        rfl
      refine take_ (i := 7) (N := some 22) (v := ?_) (a' := ?_) (bmG 10 243) rfl rfl (by kernel_rfl) (fun _ _ _ h => h) (Or.inl ⟨by rfl, ?_⟩) hS ?_ ?_
      rotate_left
      · intro w' hS
        have s0 := (show w'.cell? ⟨gn, 0, none⟩ = some (.string n.f0) from (qAd (qAg HGm.out hS) 0).trans rfl)
        have s1 := (show w'.cell? ⟨gn, 1, none⟩ = some (.int .i64 n.f1) from (qAd (qAg HGm.out hS) 1).trans rfl)
        have s2 := (show w'.cell? ⟨gn, 2, none⟩ = some (.string n.f2) from (qAd (qAg HGm.out hS) 2).trans rfl)
        go_simp
        with_reducible rfl
      rotate_left
      · simp only [Act.put, List.setIfInBounds_toArray, List.set_cons_zero, List.set_cons_succ, i64_w, i32_w]
        rfl
      refine one_ (i := 2) (N := some 17) (bmG 10 247) rfl rfl (by kernel_rfl) (by decide) (fun Kz hKz => ?_)
      refine goes_ Tryd.func95 (by kernel_rfl) rfl #[.agg #[.string n.f0, .int .i64 n.f1, .string n.f2]] (by rfl) rfl rfl (by (try simp only [List.map_toArray, List.map_cons, List.map_nil]); first | done | rfl) ?_
      refine (tar_name.calls n.f0 n.f1 n.f2 _ _ HN.out).mono ?_
      rintro e wc ⟨rfl, hb⟩
      refine ⟨_, rfl, ?_⟩
      refine hKz.out _ _ (qAe hS hb) (fun hS => ?_)
      clear hKz Kz
      refine norm_ (a' := ?_) ?_ ?_
      rotate_left
      · show Act.put _ (some 17) _ = _
        simp only [Act.put, List.setIfInBounds_toArray, List.set_cons_zero, List.set_cons_succ, i64_w, i32_w]
        rfl
      refine one_ (i := 3) (N := some 18) (bmG 10 255) rfl rfl (by kernel_rfl) (by decide) (fun Kz hKz => ?_)
      refine goes_ Tryd.func94 (by kernel_rfl) rfl #[.string (nameN n)] (by rfl) rfl rfl (by (try simp only [List.map_toArray, List.map_cons, List.map_nil]); first | done | rfl) ?_
      refine (tar_cut.calls (nameN n) _ _ HC1.out).mono ?_
      rintro e wc ⟨rfl, hb⟩
      refine ⟨_, rfl, ?_⟩
      refine hKz.out _ _ (qAe hS hb) (fun hS => ?_)
      clear hKz Kz
      refine norm_ (a' := ?_) ?_ ?_
      rotate_left
      · show Act.put _ (some 18) _ = _
        simp only [Act.put, List.setIfInBounds_toArray, List.set_cons_zero, List.set_cons_succ, i64_w, i32_w]
        rfl
      refine one_ (i := 8) (N := some 23) (bmG 10 511) rfl rfl (by kernel_rfl) (by decide) (fun Kz hKz => ?_)
      refine goes_ Tryd.func94 (by kernel_rfl) rfl #[.string n.f2] (by rfl) rfl rfl (by (try simp only [List.map_toArray, List.map_cons, List.map_nil]); first | done | rfl) ?_
      refine (tar_cut.calls n.f2 _ _ HC2.out).mono ?_
      rintro e wc ⟨rfl, hb⟩
      refine ⟨_, rfl, ?_⟩
      refine hKz.out _ _ (qAe hS hb) (fun hS => ?_)
      clear hKz Kz
      refine norm_ (a' := ?_) ?_ ?_
      rotate_left
      · show Act.put _ (some 23) _ = _
        simp only [Act.put, List.setIfInBounds_toArray, List.set_cons_zero, List.set_cons_succ, i64_w, i32_w]
        rfl
      refine last_ (i := 9) (N := some 24) (bmG 10 1023) rfl rfl (by kernel_rfl) (by decide) (fun Kz hKz => ?_)
      refine goes_ Tryd.func93 (by kernel_rfl) rfl #[.pointer (some ⟨gw, 0, none⟩), .string (cutS (nameN n)), .int .i64 n.f1, .string (cutS n.f2), .string ⟨#[]⟩] (by rfl) rfl rfl (by (try simp only [List.map_toArray, List.map_cons, List.map_nil]); first | done | rfl) ?_
      refine (qBj w0.heap.size gw vm (xs ++ entryB ⟨⟨#[112, 97, 120]⟩, 5, ⟨#[]⟩, ex⟩) (c + 1) ⟨cutS (nameN n), n.f1, cutS n.f2, ⟨#[]⟩⟩ _ ⟨Tabs.below hT.out (qAe HBm.out hS)⟩ (HWm.out.below hS) (by omega) (show (0 : Nat) ≤ 1000000 from by decide) (by omega) (by omega) hbase).mono ?_
      rintro e wc ⟨rfl, v9, hw9, hb9, hk9⟩
      refine ⟨_, rfl, ?_⟩
      refine hKz.out _ _ ?_
      clear hKz Kz
      refine norm_ (a' := ?_) ?_ ?_
      rotate_left
      · show Act.put _ (some 24) _ = _
        simp only [Act.put, List.setIfInBounds_toArray, List.set_cons_zero, List.set_cons_succ, i64_w, i32_w]
        rfl
      refine done_ (by kernel_rfl) ?_
      have HEN := Aside0.mk (show entsN n = [⟨⟨#[112, 97, 120]⟩, 5, ⟨#[]⟩, ex⟩, ⟨cutS (nameN n), n.f1, cutS n.f2, ⟨#[]⟩⟩] from by
        unfold entsN
        rw [HEX.out, HX.out, show ownE n = ⟨cutS (nameN n), n.f1, cutS n.f2, ⟨#[]⟩⟩ from if_pos (by simpa using hb4)]
        rfl)
      have HBF := Aside0.mk (qBn HBm.out (qC1 hS hb9 HBm.out.size))
      have HW9 := Aside0.mk hw9
      have HK9 := Aside0.mk (HKm.out.trans ((KeepU.below hS).trans hk9))
      clear hw9 hb9 hk9
      go_wp2_with fail
      first | go_end0 | ((try simp only [Exit.inBlock, Exit.then]); refine bodyPost_ret (results_none rfl _ _ _) rfl ?_)
      refine ⟨rfl, v9, ?_, HBF.out, HK9.out⟩
      rw [HEN.out]
      have h9 := HW9.out
      simpa [List.append_assoc, Int.add_assoc] using h9
    | false =>
      go_wp2_with fail
      refine start_ (n := 9) (S := fun w' => Below Wm.heap.size Wm w') (ds := [8]) (bmG 9 0) (by kernel_rfl) rfl (by kernel_rfl) (qAc (Below.refl Wm.heap.size Wm)) (fun hS => ?_)
      generalize Wm.drew = wd at hS ⊢
      refine pure_ (i := 0) (N := some 25) (v := ?_) (a' := ?_) (bmG 9 1) rfl rfl (by kernel_rfl) (fun _ _ _ h => h) (Or.inl ⟨by rfl, ?_⟩) ?_ ?_
      rotate_left
      · intro w'
        go_simp
        with_reducible rfl
      rotate_left
      · simp only [Act.put, List.setIfInBounds_toArray, List.set_cons_zero, List.set_cons_succ, i64_w, i32_w]
        rfl
      refine take_ (i := 1) (N := some 26) (v := ?_) (a' := ?_) (bmG 9 3) rfl rfl (by kernel_rfl) (fun _ _ _ h => h) (Or.inl ⟨by rfl, ?_⟩) hS ?_ ?_
      rotate_left
      · intro w' hS
        have s0 := (show w'.cell? ⟨gn, 0, none⟩ = some (.string n.f0) from (qAd (qAg HGm.out hS) 0).trans rfl)
        have s1 := (show w'.cell? ⟨gn, 1, none⟩ = some (.int .i64 n.f1) from (qAd (qAg HGm.out hS) 1).trans rfl)
        have s2 := (show w'.cell? ⟨gn, 2, none⟩ = some (.string n.f2) from (qAd (qAg HGm.out hS) 2).trans rfl)
        go_simp
        with_reducible rfl
      rotate_left
      · simp only [Act.put, List.setIfInBounds_toArray, List.set_cons_zero, List.set_cons_succ, i64_w, i32_w]
        rfl
      refine pure_ (i := 4) (N := some 29) (v := ?_) (a' := ?_) (bmG 9 19) rfl rfl (by kernel_rfl) (fun _ _ _ h => h) (Or.inl ⟨by rfl, ?_⟩) ?_ ?_
      rotate_left
      · intro w'
        go_simp
        with_reducible rfl
      rotate_left
      · simp only [Act.put, List.setIfInBounds_toArray, List.set_cons_zero, List.set_cons_succ, i64_w, i32_w]
        rfl
      refine take_ (i := 5) (N := some 30) (v := ?_) (a' := ?_) (bmG 9 51) rfl rfl (by kernel_rfl) (fun _ _ _ h => h) (Or.inl ⟨by rfl, ?_⟩) hS ?_ ?_
      rotate_left
      · intro w' hS
        have s0 := (show w'.cell? ⟨gn, 0, none⟩ = some (.string n.f0) from (qAd (qAg HGm.out hS) 0).trans rfl)
        have s1 := (show w'.cell? ⟨gn, 1, none⟩ = some (.int .i64 n.f1) from (qAd (qAg HGm.out hS) 1).trans rfl)
        have s2 := (show w'.cell? ⟨gn, 2, none⟩ = some (.string n.f2) from (qAd (qAg HGm.out hS) 2).trans rfl)
        go_simp
        with_reducible rfl
      rotate_left
      · simp only [Act.put, List.setIfInBounds_toArray, List.set_cons_zero, List.set_cons_succ, i64_w, i32_w]
        rfl
      refine pure_ (i := 6) (N := some 31) (v := ?_) (a' := ?_) (bmG 9 115) rfl rfl (by kernel_rfl) (fun _ _ _ h => h) (Or.inl ⟨by rfl, ?_⟩) ?_ ?_
      rotate_left
      · intro w'
        go_simp
        with_reducible rfl
      rotate_left
      · simp only [Act.put, List.setIfInBounds_toArray, List.set_cons_zero, List.set_cons_succ, i64_w, i32_w]
        rfl
      refine take_ (i := 7) (N := some 32) (v := ?_) (a' := ?_) (bmG 9 243) rfl rfl (by kernel_rfl) (fun _ _ _ h => h) (Or.inl ⟨by rfl, ?_⟩) hS ?_ ?_
      rotate_left
      · intro w' hS
        have s0 := (show w'.cell? ⟨gn, 0, none⟩ = some (.string n.f0) from (qAd (qAg HGm.out hS) 0).trans rfl)
        have s1 := (show w'.cell? ⟨gn, 1, none⟩ = some (.int .i64 n.f1) from (qAd (qAg HGm.out hS) 1).trans rfl)
        have s2 := (show w'.cell? ⟨gn, 2, none⟩ = some (.string n.f2) from (qAd (qAg HGm.out hS) 2).trans rfl)
        go_simp
        with_reducible rfl
      rotate_left
      · simp only [Act.put, List.setIfInBounds_toArray, List.set_cons_zero, List.set_cons_succ, i64_w, i32_w]
        rfl
      refine one_ (i := 2) (N := some 27) (bmG 9 247) rfl rfl (by kernel_rfl) (by decide) (fun Kz hKz => ?_)
      refine goes_ Tryd.func95 (by kernel_rfl) rfl #[.agg #[.string n.f0, .int .i64 n.f1, .string n.f2]] (by rfl) rfl rfl (by (try simp only [List.map_toArray, List.map_cons, List.map_nil]); first | done | rfl) ?_
      refine (tar_name.calls n.f0 n.f1 n.f2 _ _ HN.out).mono ?_
      rintro e wc ⟨rfl, hb⟩
      refine ⟨_, rfl, ?_⟩
      refine hKz.out _ _ (qAe hS hb) (fun hS => ?_)
      clear hKz Kz
      refine norm_ (a' := ?_) ?_ ?_
      rotate_left
      · show Act.put _ (some 27) _ = _
        simp only [Act.put, List.setIfInBounds_toArray, List.set_cons_zero, List.set_cons_succ, i64_w, i32_w]
        rfl
      refine one_ (i := 3) (N := some 28) (bmG 9 255) rfl rfl (by kernel_rfl) (by decide) (fun Kz hKz => ?_)
      refine goes_ Tryd.func94 (by kernel_rfl) rfl #[.string (nameN n)] (by rfl) rfl rfl (by (try simp only [List.map_toArray, List.map_cons, List.map_nil]); first | done | rfl) ?_
      refine (tar_cut.calls (nameN n) _ _ HC1.out).mono ?_
      rintro e wc ⟨rfl, hb⟩
      refine ⟨_, rfl, ?_⟩
      refine hKz.out _ _ (qAe hS hb) (fun hS => ?_)
      clear hKz Kz
      refine norm_ (a' := ?_) ?_ ?_
      rotate_left
      · show Act.put _ (some 28) _ = _
        simp only [Act.put, List.setIfInBounds_toArray, List.set_cons_zero, List.set_cons_succ, i64_w, i32_w]
        rfl
      refine last_ (i := 8) (N := some 33) (bmG 9 511) rfl rfl (by kernel_rfl) (by decide) (fun Kz hKz => ?_)
      refine goes_ Tryd.func93 (by kernel_rfl) rfl #[.pointer (some ⟨gw, 0, none⟩), .string (cutS (nameN n)), .int .i64 n.f1, .string ⟨#[]⟩, .string n.f2] (by rfl) rfl rfl (by (try simp only [List.map_toArray, List.map_cons, List.map_nil]); first | done | rfl) ?_
      refine (qBj w0.heap.size gw vm (xs ++ entryB ⟨⟨#[112, 97, 120]⟩, 5, ⟨#[]⟩, ex⟩) (c + 1) ⟨cutS (nameN n), n.f1, ⟨#[]⟩, n.f2⟩ _ ⟨Tabs.below hT.out (qAe HBm.out hS)⟩ (HWm.out.below hS) (by omega) (by show n.f2.size ≤ 1000000; omega) (by omega) (by omega) hbase).mono ?_
      rintro e wc ⟨rfl, v9, hw9, hb9, hk9⟩
      refine ⟨_, rfl, ?_⟩
      refine hKz.out _ _ ?_
      clear hKz Kz
      refine norm_ (a' := ?_) ?_ ?_
      rotate_left
      · show Act.put _ (some 33) _ = _
        simp only [Act.put, List.setIfInBounds_toArray, List.set_cons_zero, List.set_cons_succ, i64_w, i32_w]
        rfl
      refine done_ (by kernel_rfl) ?_
      have HEN := Aside0.mk (show entsN n = [⟨⟨#[112, 97, 120]⟩, 5, ⟨#[]⟩, ex⟩, ⟨cutS (nameN n), n.f1, ⟨#[]⟩, n.f2⟩] from by
        unfold entsN
        rw [HEX.out, HX.out, show ownE n = ⟨cutS (nameN n), n.f1, ⟨#[]⟩, n.f2⟩ from if_neg (by simpa using hb4)]
        rfl)
      have HBF := Aside0.mk (qBn HBm.out (qC1 hS hb9 HBm.out.size))
      have HW9 := Aside0.mk hw9
      have HK9 := Aside0.mk (HKm.out.trans ((KeepU.below hS).trans hk9))
      clear hw9 hb9 hk9
      go_wp2_with fail
      first | go_end0 | ((try simp only [Exit.inBlock, Exit.then]); refine bodyPost_ret (results_none rfl _ _ _) rfl ?_)
      refine ⟨rfl, v9, ?_, HBF.out, HK9.out⟩
      rw [HEN.out]
      have h9 := HW9.out
      simpa [List.append_assoc, Int.add_assoc] using h9
end Go.Proofs.YtdijnmcfpbceaaaDoor.X

namespace Go.Proofs.YtdijnmcfpbceaaaDoor.X
open Go.RowKit Go.Proofs.YtdijnmcfpbceaaaDoorW.PrintWords Go.Proofs.YtdijnmcfpbceaaaDoorW.PrintLast Go.Proofs.YtdijnmcfpbceaaaDoorW.PrintMore Go.Proofs.YtdijnmcfpbceaaaDoor.P
set_option linter.unusedVariables false
set_option linter.unusedSimpArgs false
theorem qCi : ∀ (l ahead : List S29), treeR ahead l = true → (∀ n ∈ l, goodN n = true) ∧ ahead.length + l.length ≤ max 400 ahead.length
  | [], ahead, _ => ⟨fun n h => (by cases h), (by simp only [List.length_nil]; omega)⟩
  | n :: l, ahead, h => by
    unfold treeR at h
    rw [Bool.and_eq_true, Bool.and_eq_true, Bool.and_eq_true, decide_eq_true_eq] at h
    obtain ⟨⟨⟨h1, h2⟩, _⟩, h3⟩ := h
    obtain ⟨i1, i2⟩ := qCi l (ahead ++ [n]) h3
    refine ⟨fun m hm => ?_, ?_⟩
    · rcases List.mem_cons.1 hm with rfl | hm
      · exact h2
      · exact i1 m hm
    · rw [List.length_append, List.length_singleton] at i2
      rw [List.length_cons]
      omega
theorem qB1 {t : List S29} (h : treeB t = true) : (∀ n ∈ t, n.f0.size ≤ 200 ∧ n.f2.size ≤ 400) ∧ t.length ≤ 400 := by
  unfold treeB at h
  rw [Bool.and_eq_true] at h
  obtain ⟨h1, h2⟩ := qCi t [] h.2
  refine ⟨fun n hn => ?_, by simpa using h2⟩
  have hg := h1 n hn
  unfold goodN at hg
  rw [Bool.and_eq_true, Bool.and_eq_true, decide_eq_true_eq] at hg
  exact ⟨qBm hg.1.1, hg.1.2⟩
theorem qDs (n : S29) (h0 : n.f0.size ≤ 1000) (h2 : n.f2.size ≤ 1000) : (entsN n).length ≤ 2 ∧ ((entsN n).flatMap entryB).length ≤ 16000 := by
  have hx := qDe n h0 h2
  have ho : (ownE n).data.size ≤ 1000 := by
    unfold ownE
    split
    · exact (by decide : (0 : Nat) ≤ 1000)
    · exact h2
  have h3 := qCl (ownE n)
  have h4 := qCl ⟨⟨#[112, 97, 120]⟩, 5, ⟨#[]⟩, extraN n⟩
  have h5 : (⟨⟨#[112, 97, 120]⟩, 5, ⟨#[]⟩, extraN n⟩ : EntT).data.size = (extraN n).size := rfl
  unfold entsN
  split
  · refine ⟨by simp, ?_⟩
    simp only [List.nil_append, List.flatMap_cons, List.flatMap_nil, List.append_nil]
    omega
  · refine ⟨by simp, ?_⟩
    simp only [List.cons_append, List.nil_append, List.flatMap_cons, List.flatMap_nil, List.append_nil, List.length_append]
    omega
set_option maxHeartbeats 4000000 in
set_option maxRecDepth 100000 in
theorem qDq (A0 : Option Addr) (c0 : Nat) (t : List S29) (w : World) (hT : Aside0 (Tabs w)) (hC : Kd.C k29 w A0 t.length t) (hc : t.length ≤ c0) (hn : treeB t = true) :
    Calls Tryd.prog 34 #[.slice A0 t.length c0] w fun e w' => ∃ gw v, e = .returned (.pointer (some ⟨gw, 0, none⟩)) ∧ WrAt w' w.heap.size gw v ((entsT t).flatMap entryB) ((entsT t).length : Nat) ∧ Below w.heap.size w w' := by
  have X := Aside0.mk hC
  have HG := Aside0.mk (qB1 hn)
  clear hC hn
  have HBn := Aside0.mk (qAb (Below.refl w.heap.size w) (.cells #[.slice none 0 0, .int .i64 0] 64))
  have HZn := Aside0.mk (qB0 w (.cells #[.slice none 0 0, .int .i64 0] 64))
  go_enter Tryd.func34, Tryd.ntmps34
  go_wp2_with fail
  have hgs : w.heap.size ≤ w.heap.size := Nat.le_refl _
  go_loopw [13] (fun v13 wr => ∃ (i : Nat) (v : Value) (xs : List Int) (c : Nat), v13 = .int .i64 i ∧ i ≤ t.length ∧ xs.length ≤ 16000 * i ∧ c ≤ 2 * i ∧ Aside0 (xs = (entsT (t.take i)).flatMap entryB ∧ c = (entsT (t.take i)).length) ∧ Aside0 (WrAt wr w.heap.size w.heap.size v xs (c : Nat)) ∧ Aside0 (Below w.heap.size w wr)) (fun a _ => t.length - (intOf a).toNat)
  case atStart => exact ⟨0, _, [], 0, rfl, by omega, by simp, by omega, ⟨rfl, rfl⟩, ⟨⟨HZn.out, ⟨rfl, .inl ⟨rfl, rfl⟩⟩⟩⟩, HBn⟩
  case round =>
    clear HBn HZn
    obtain ⟨i, v, xs, c, rfl, hi, hxl, hcl, HXS, HW, HB⟩ := hrel
    have h400 := HG.out.2
    by_cases hil : i < t.length
    · have hic : decide ((i : Int) < (t.length : Int)) = true := decide_eq_true (by omega)
      have hi0 : 0 ≤ (i : Int) := by omega
      obtain ⟨ad, rfl, z0, z1, z2⟩ := at_T29 (Kd.C_below X.out HB.out) (i : Int) (by omega) (by omega)
      simp only [Int.toNat_natCast] at z0 z1 z2
      have HX := Aside0.mk (qC9 t i hil)
      have HS := Aside0.mk (HG.out.1 t[i] (List.getElem_mem _))
      rw [← HX.out] at HS
      generalize rd_T29 t (i : Int) = x at *
      obtain ⟨hs0, hs2⟩ := HS.out
      have hbd := qDs x (by omega) (by omega)
      have HWn := Aside0.mk (HW.out.below (qAb (Below.refl wr.heap.size wr) (.cells #[.string x.f0, .int .i64 x.f1, .string x.f2] 29)))
      have HBn := Aside0.mk (qAb HB.out (.cells #[.string x.f0, .int .i64 x.f1, .string x.f2] 29))
      go_wp2_with fail
      refine (qFj w w.heap.size v xs (c : Nat) x _ hT HBn.out HWn.out (by omega) (by omega) (by omega) (by omega) (by omega) hgs).mono ?_
      rintro e w5 ⟨rfl, v5, hw5, hb5, _⟩
      have HW5 := Aside0.mk hw5
      have HB5 := Aside0.mk hb5
      have HXS5 := Aside0.mk (show xs ++ (entsN x).flatMap entryB = (entsT (t.take (i + 1))).flatMap entryB ∧ c + (entsN x).length = (entsT (t.take (i + 1))).length from by
        rw [List.take_succ_eq_append_getElem hil, ← HX.out]
        unfold entsT
        rw [List.flatMap_append, List.flatMap_append, List.length_append]
        have h1 := HXS.out
        unfold entsT at h1
        simp only [List.flatMap_cons, List.flatMap_nil, List.append_nil]
        exact ⟨by rw [← h1.1], by rw [← h1.2]⟩)
      clear hw5 hb5 HW HB HWn HBn HXS z0 z1 z2
      go_wp2_with fail
      refine ⟨⟨i + 1, v5, _, c + (entsN x).length, by simp, by omega, ?_, by omega, HXS5, HW5, HB5⟩, by simp only [intOf]; omega⟩
      rw [List.length_append]
      omega
    · have hic : decide ((i : Int) < (t.length : Int)) = false := decide_eq_false (by omega)
      have hi2 : i = t.length := by omega
      subst hi2
      have HF := Aside0.mk (show xs = (entsT t).flatMap entryB ∧ c = (entsT t).length from by
        have := HXS.out
        rw [List.take_length] at this
        exact this)
      clear HXS hil hi
      go_wp2_with fail
      go_ret
      refine ⟨w.heap.size, v, rfl, ?_, HB.out⟩
      rw [← HF.out.1, ← HF.out.2]
      exact HW.out
theorem qCk : ∀ (t : List S29), (∀ n ∈ t, n.f0.size ≤ 200 ∧ n.f2.size ≤ 400) → ((entsT t).flatMap entryB).length ≤ 16000 * t.length
  | [], _ => by simp [entsT]
  | n :: t, h => by
    obtain ⟨a, b⟩ := h n List.mem_cons_self
    have h1 := (qDs n (by omega) (by omega)).2
    have h2 := qCk t (fun m hm => h m (List.mem_cons_of_mem _ hm))
    unfold entsT at h2 ⊢
    rw [List.flatMap_cons, List.flatMap_append, List.length_append, List.length_cons]
    omega
def entsR (t : List S29) : Int := if treeB t = true then ((entsT t).length : Nat) else 0
set_option maxHeartbeats 4000000 in
set_option maxRecDepth 100000 in
theorem qBr (A0 : Option Addr) (c0 : Nat) (t : List S29) (w : World) (hT : Aside0 (Tabs w)) (hC : Kd.C k29 w A0 t.length t) (hc : t.length ≤ c0) (hn : t.length ≤ 100000) :
    Calls Tryd.prog 16 #[.slice A0 t.length c0] w fun e w' => e = .returned (.int .i64 (entsR t)) ∧ Below w.heap.size w w' := by
  have X := Aside0.mk hC
  clear hC
  go_enter Tryd.func16, Tryd.ntmps16
  go_wp2_with fail
  refine (qBc A0 c0 t w hT X.out hc hn).mono ?_
  rintro e w1 ⟨rfl, hb1⟩
  have HB1 := Aside0.mk hb1
  clear hb1
  obtain ⟨bt, hbt⟩ : ∃ b, treeB t = b := ⟨_, rfl⟩
  have HBT := Aside0.mk hbt
  rw [hbt]
  clear hbt
  cases bt with
  | false =>
    go_wp2_with fail
    go_ret
    have hr : entsR t = 0 := by unfold entsR; rw [if_neg (by rw [HBT.out]; simp)]
    exact ⟨by rw [hr]; rfl, HB1.out⟩
  | true =>
    go_wp2_with fail
    refine (qDq A0 c0 t w1 ⟨Tabs.below hT.out HB1.out⟩ (Kd.C_below X.out HB1.out) hc HBT.out).mono ?_
    rintro e w2 ⟨gw, v, rfl, hw2, hb2⟩
    have HB2 := Aside0.mk (qAe HB1.out hb2)
    have z1 := (show w2.cell? ⟨gw, 1, none⟩ = some (.int .i64 ((entsT t).length : Nat)) from (qAd hw2.cell 1).trans rfl)
    clear hw2 hb2
    go_wp2_with fail
    go_ret
    have hr : entsR t = ((entsT t).length : Nat) := by unfold entsR; rw [if_pos HBT.out]
    exact ⟨by rw [hr]; rfl, HB2.out⟩
set_option maxHeartbeats 4000000 in
set_option maxRecDepth 100000 in
theorem qCm (A0 : Option Addr) (c0 : Nat) (t : List S29) (w : World) (hT : Aside0 (Tabs w)) (hC : Kd.C k29 w A0 t.length t) (hc : t.length ≤ c0) (hn : t.length ≤ 100000) :
    Calls Tryd.prog 15 #[.slice A0 t.length c0] w fun e w' => ∃ v, e = .returned (.tuple #[v, .int .i64 (tarR t).2]) ∧ w'.ownsRow w.heap.size 5 1 v (tarR t).1.length (nums .u8 (tarR t).1) ∧ Below w.heap.size w w' := by
  have X := Aside0.mk hC
  clear hC
  go_enter Tryd.func15, Tryd.ntmps15
  go_wp2_with fail
  refine (qBc A0 c0 t w hT X.out hc hn).mono ?_
  rintro e w1 ⟨rfl, hb1⟩
  have HB1 := Aside0.mk hb1
  clear hb1
  obtain ⟨bt, hbt⟩ : ∃ b, treeB t = b := ⟨_, rfl⟩
  have HBT := Aside0.mk hbt
  rw [hbt]
  clear hbt
  cases bt with
  | false =>
    have HR := Aside0.mk (show tarR t = ([], 7) from by unfold tarR; rw [if_neg (by rw [HBT.out]; simp)])
    go_wp2_with fail
    go_ret2
    rw [HR.out]
    exact ⟨.slice none 0 0, rfl, ⟨rfl, .inl ⟨rfl, rfl⟩⟩, HB1.out⟩
  | true =>
    have HR := Aside0.mk (show tarR t = (tarB t, 0) from by unfold tarR; rw [if_pos HBT.out])
    go_wp2_with fail
    refine (qDq A0 c0 t w1 ⟨Tabs.below hT.out HB1.out⟩ (Kd.C_below X.out HB1.out) hc HBT.out).mono ?_
    rintro e w2 ⟨gw, v, rfl, hw2, hb2⟩
    have HB2 := Aside0.mk (qAe HB1.out hb2)
    have z0 := (show w2.cell? ⟨gw, 0, none⟩ = some v from (qAd hw2.cell 0).trans rfl)
    have HW2 := Aside0.mk (qDl hw2.row HB1.out.size)
    clear hw2 hb2
    have hfb := qCk t (qB1 HBT.out).1
    have h400 := (qB1 HBT.out).2
    have HTB := Aside0.mk (show tarB t = (entsT t).flatMap entryB ++ List.replicate 1024 0 from rfl)
    generalize (entsT t).flatMap entryB = zs at *
    go_wp2_with (at_builtin; refine qCh (w0 := w) w.heap.size rfl (.tmp 11) (.const (.int .i64 1024)) 30 3 5 rfl Tryd.underlying30 Tryd.underlying3 (by kernel_rfl) v 0 zs .i64 1024 rfl rfl HW2.out HB2.out HB2.out.size (by omega) ?_; intro v5 w5 ho5 hb5 _; rw [← HTB.out] at ho5; have HO5 := Aside0.mk ho5; have HB5 := Aside0.mk hb5; clear ho5 hb5)
    go_ret2
    rw [HR.out]
    exact ⟨v5, rfl, HO5.out, HB5.out⟩
end Go.Proofs.YtdijnmcfpbceaaaDoor.X

namespace Go.Proofs.YtdijnmcfpbceaaaDoor.X
open Go.RowKit Go.Proofs.YtdijnmcfpbceaaaDoorW.PrintWords Go.Proofs.YtdijnmcfpbceaaaDoorW.PrintLast Go.Proofs.YtdijnmcfpbceaaaDoorW.PrintMore Go.Proofs.YtdijnmcfpbceaaaDoor.P
set_option linter.unusedVariables false
set_option linter.unusedSimpArgs false
def nodeD : S29 := ⟨⟨#[]⟩, 1, ⟨#[]⟩⟩
theorem treeD : treeB [nodeD] = true := by decide
def dotS : ByteArray := ⟨#[46]⟩
theorem nameD : nameN nodeD = dotS := rfl
theorem extraD : extraN nodeD = ⟨#[]⟩ := by
  unfold extraN
  rw [if_neg (by decide), if_neg (by decide)]
  exact qBz _
theorem cutD : cutS dotS = dotS := by
  unfold cutS
  apply qA6
  rfl
theorem entsD : entsT [nodeD] = [⟨dotS, 1, ⟨#[]⟩, ⟨#[]⟩⟩] := by
  unfold entsT entsN
  simp only [List.flatMap_cons, List.flatMap_nil, List.append_nil]
  rw [extraD]
  rw [if_pos (show (⟨#[]⟩ : ByteArray).size = 0 from rfl)]
  unfold ownE
  rw [if_neg (by decide), nameD, cutD]
  rfl
theorem tarD : tarB [nodeD] = layB dotS 1 0 ⟨#[]⟩ ++ List.replicate 1024 0 := by
  unfold tarB
  rw [entsD]
  have h : entryB ⟨dotS, 1, ⟨#[]⟩, ⟨#[]⟩⟩ = layB dotS 1 0 ⟨#[]⟩ := by
    unfold entryB
    have h1 : layR dotS 1 0 ⟨#[]⟩ = (layB dotS 1 0 ⟨#[]⟩, true) := by
      unfold layR
      rw [if_pos ⟨by decide, by omega, by omega⟩]
      rfl
    have h2 : (((⟨#[]⟩ : ByteArray).size : Nat) : Int) = 0 := rfl
    have h3 : qAr (⟨#[]⟩ : ByteArray) = [] := rfl
    have h4 : padN (⟨#[]⟩ : ByteArray).size = 0 := rfl
    simp only [h2, h1, h3, h4, List.replicate_zero, List.append_nil]
  simp only [List.flatMap_cons, List.flatMap_nil, List.append_nil]
  rw [h]
theorem qEy : (tarB [nodeD]).length = 1536 := by
  rw [tarD, List.length_append, qBi _ _ _ _ (by decide) (by decide), List.length_replicate]
theorem recM9 : recM 9 = 11 := by
  have h10 : lenD 10 = 2 := by rw [qCj 10 (by omega), qBy (10 / 10) (by omega)]
  have h11 : lenD 11 = 2 := by rw [qCj 11 (by omega), qBy (11 / 10) (by omega)]
  unfold recM
  simp only [recS, h10, h11]
  rfl
theorem recD : recT ⟨#[112, 97, 116, 104]⟩ ⟨#[97, 98]⟩ = ⟨#[49, 49, 32, 112, 97, 116, 104, 61, 97, 98, 10]⟩ := by
  unfold recT recB
  show (⟨(Lib.decDigits (recM 9) ++ (32 :: [112, 97, 116, 104] ++ 61 :: [97, 98] ++ [10])).toArray⟩ : ByteArray) = _
  rw [recM9, Lib.decDigits_two (i := 11) (by omega) (by omega)]
  rfl
theorem qFd : ∃ l, tarB [nodeD] = 46 :: l := by
  rw [tarD, qB4 _ _ _ _ (by decide) (by decide)]
  exact ⟨_, rfl⟩
theorem singG {α : Type} {d : Kd α} {w : World} {g t : Nat} {cs : List Value} {x : α} (h : w.heap[g]? = some (.cells cs.toArray t (0, 0))) (hK : d.K w x cs) : d.C w (some ⟨g, 0, none⟩) 1 [x] := by
  refine ⟨rfl, by omega, fun _ => ⟨⟨g, 0, none⟩, rfl, fun j p hj => ?_⟩⟩
  cases j with
  | zero =>
    cases hj
    refine ⟨cs, d.K_len hK, hK, fun i u hu => ?_⟩
    rw [Nat.zero_mul, Nat.zero_add]
    exact newsG h _ rfl i u hu
  | succ j => simp at hj
set_option maxHeartbeats 4000000 in
set_option maxRecDepth 100000 in
theorem qBu (w : World) (hT : Aside0 (Tabs w)) :
    Calls Tryd.prog 11 #[] w fun e w' => e = .returned (.bool true) ∧ Below w.heap.size w w' := by
  go_enter Tryd.func11, Tryd.ntmps11
  have HTR := Aside0.mk (show tarR [nodeD] = (tarB [nodeD], 0) from by unfold tarR; rw [if_pos treeD])
  have HTL := Aside0.mk qEy
  have HTF := Aside0.mk qFd
  go_wp2_with fail
  refine (qCm (some ⟨w.heap.size, 0, none⟩) 1 [nodeD] _ ⟨Tabs.below hT.out (qAb (Below.refl _ _) _)⟩ (singG (qB0 w _) (k29_mk _ nodeD)) (Nat.le_refl 1) (by simp)).mono ?_
  rintro e w1 ⟨v, rfl, ho, hb⟩
  have HB := Aside0.mk (qAe (qAb (Below.refl w.heap.size w) (.cells #[.string ⟨#[]⟩, .int .i64 1, .string ⟨#[]⟩] 29)) hb)
  rw [HTR.out] at ho
  rw [HTR.out]
  generalize tarB [nodeD] = bs at *
  obtain ⟨A, c, rfl, hR⟩ := qEg ho
  have HR := Aside0.mk hR
  clear hb ho hR HTR
  have h1536 : ((bs.length : Int) == 1536) = true := by rw [HTL.out]; rfl
  have hd1536 : decide ((bs.length : Int) = 1536) = true := by rw [HTL.out]; rfl
  have hpos : decide ((0 : Int) < (bs.length : Int)) = true := by rw [HTL.out]; rfl
  have hpn : 0 < bs.length := by rw [HTL.out]; decide
  obtain ⟨ad, rfl, hcell⟩ := HR.out.2.2 hpn
  have HC1 := Aside0.mk (show w1.cell? (ad.add 0) = some (.int .u8 46) from by
    obtain ⟨l, hl⟩ := HTF.out
    have h0 := hcell 0 hpn
    rw [hl] at h0
    exact h0)
  have HC0 := Aside0.mk (show w1.cell? ad = some (.int .u8 46) from by
    have h0 := HC1.out
    have e : ad.add 0 = ad := by cases ad; simp [Addr.add]
    rw [e] at h0
    exact h0)
  have hpz : (0 : Int) < (bs.length : Int) := Int.natCast_pos.2 hpn
  clear hcell HR HTL HTF
  go_wp2_with fail
  refine (qCq ⟨#[112, 97, 116, 104]⟩ ⟨#[97, 98]⟩ w1 ⟨Tabs.below hT.out HB.out⟩ (by decide)).mono ?_
  rintro e w2 ⟨rfl, hb2⟩
  rw [recD]
  have HB2 := Aside0.mk (qAe HB.out hb2)
  have hc0 := qA2 hb2 HC0.out
  have hc1 := qA2 hb2 HC1.out
  clear hb2 HB HC0 HC1
  have HER := Aside0.mk (show entsR [nodeD] = 1 from by unfold entsR; rw [if_pos treeD, entsD]; rfl)
  go_wp2_with fail
  refine (qBr (some ⟨w2.heap.size, 0, none⟩) 1 [nodeD] _ ⟨Tabs.below hT.out (qAb HB2.out _)⟩ (singG (qB0 w2 _) (k29_mk _ nodeD)) (Nat.le_refl 1) (by simp)).mono ?_
  rintro e w3 ⟨rfl, hb⟩
  rw [HER.out]
  have HB3 := Aside0.mk (qAe (qAb HB2.out (.cells #[.string ⟨#[]⟩, .int .i64 1, .string ⟨#[]⟩] 29)) hb)
  clear hb
  go_wp2_with fail
  go_ret
  exact ⟨rfl, HB3.out⟩
end Go.Proofs.YtdijnmcfpbceaaaDoor.X

namespace Go.Proofs.YtdijnmcfpbceaaaDoor.X
open Go.RowKit Go.Proofs.YtdijnmcfpbceaaaDoorW.PrintWords Go.Proofs.YtdijnmcfpbceaaaDoorW.PrintLast Go.Proofs.YtdijnmcfpbceaaaDoorW.PrintMore Go.Proofs.YtdijnmcfpbceaaaDoor.P
set_option linter.unusedVariables false
set_option linter.unusedSimpArgs false
def bigN (n : S29) : Bool := decide (300 < n.f0.size) || decide (500 < n.f2.size)
def greatN (t : List S29) (most : Nat) : Bool := decide (most < t.length) || t.any bigN
theorem qEp {t : List S29} {m : Nat} (h : greatN t m = false) : t.length ≤ m ∧ ∀ n ∈ t, n.f0.size ≤ 300 ∧ n.f2.size ≤ 500 := by
  unfold greatN at h
  rw [Bool.or_eq_false_iff, decide_eq_false_iff_not, List.any_eq_false] at h
  refine ⟨by omega, fun n hn => ?_⟩
  have h1 := h.2 n hn
  unfold bigN at h1
  rw [Bool.or_eq_true, decide_eq_true_eq, decide_eq_true_eq] at h1
  omega
set_option maxHeartbeats 4000000 in
set_option maxRecDepth 100000 in
theorem qCx (A0 : Option Addr) (c0 : Nat) (t : List S29) (m : Nat) (w : World) (hC : Kd.C k29 w A0 t.length t) (hc : t.length ≤ c0) (hm : m ≤ 100000) :
    Calls Tryd.prog 13 #[.slice A0 t.length c0, .int .i64 m] w fun e w' => e = .returned (.bool (greatN t m)) ∧ Below w.heap.size w w' := by
  have X := Aside0.mk hC
  have hmx : t.length ≤ 9223372036854775807 := hC.2.1
  clear hC
  go_enter Tryd.func13, Tryd.ntmps13
  obtain ⟨bm, hbm⟩ : ∃ b, decide (m < t.length) = b := ⟨_, rfl⟩
  have HBM := Aside0.mk hbm
  have hle : decide ((t.length : Int) ≤ (m : Int)) = !bm := by rw [← hbm, ← decide_not, decide_eq_decide]; omega
  have hgt : decide ((m : Int) < (t.length : Int)) = bm := by rw [← hbm, decide_eq_decide]; omega
  have hlen : decide (t.length ≤ m) = !bm := by rw [← hbm, ← decide_not, decide_eq_decide]; omega
  go_wp2_with fail
  go_loopw [5] (fun v5 wr => ∃ i : Nat, v5 = .int .i64 i ∧ i ≤ t.length ∧ Aside0 (wr = w) ∧ Aside0 (∀ n ∈ t.take i, bigN n = false)) (fun a _ => t.length - (intOf a).toNat)
  case atStart => exact ⟨0, rfl, by omega, ⟨rfl⟩, ⟨by intro n hn; cases hn⟩⟩
  case round =>
    obtain ⟨i, rfl, hi, HW, HA⟩ := hrel
    obtain rfl := HW.out
    by_cases hil : i < t.length
    · have hic : decide ((i : Int) < (t.length : Int)) = true := decide_eq_true (by omega)
      have hi0 : 0 ≤ (i : Int) := by omega
      cases bm with
      | true =>
        go_wp2_with fail
        go_ret
        exact ⟨by unfold greatN; rw [HBM.out]; rfl, Below.refl _ _⟩
      | false =>
        obtain ⟨ad, rfl, z0, z1, z2⟩ := at_T29 X.out (i : Int) (by omega) (by omega)
        simp only [Int.toNat_natCast] at z0 z1 z2
        have HX := Aside0.mk (qC9 t i hil)
        have HN := Aside0.mk (show ∀ n ∈ t.take (i + 1), n ∈ t.take i ∨ n = rd_T29 t (i : Int) from fun n hn => by
          rw [List.take_succ_eq_append_getElem hil, List.mem_append, List.mem_singleton] at hn
          rw [HX.out]
          exact hn)
        have HM := Aside0.mk (show rd_T29 t (i : Int) ∈ t from by rw [HX.out]; exact List.getElem_mem _)
        generalize rd_T29 t (i : Int) = x at *
        obtain ⟨b0, hb0⟩ : ∃ b, decide ((300 : Int) < (x.f0.size : Int)) = b := ⟨_, rfl⟩
        obtain ⟨b2, hb2⟩ : ∃ b, decide ((500 : Int) < (x.f2.size : Int)) = b := ⟨_, rfl⟩
        have HG := Aside0.mk (show bigN x = (b0 || b2) from by
          unfold bigN
          rw [← hb0, ← hb2]
          congr 1 <;> (rw [decide_eq_decide]; omega))
        cases hbb : (b0 || b2) with
        | true =>
          have HF := Aside0.mk (show greatN t m = true from by
            unfold greatN
            rw [Bool.or_eq_true]
            refine .inr (List.any_eq_true.2 ⟨x, HM.out, ?_⟩)
            rw [HG.out, hbb])
          cases b0 <;> cases b2 <;> first
          | (cases hbb; done)
          | (go_wp2_with fail
             go_ret
             exact ⟨by rw [HF.out]; rfl, Below.refl _ _⟩)
        | false =>
          obtain rfl : b0 = false := by cases b0 <;> first | rfl | cases hbb
          obtain rfl : b2 = false := by cases b2 <;> first | rfl | cases hbb
          clear hbb
          go_wp2_with fail
          refine ⟨⟨i + 1, by simp, by omega, ⟨by trivial⟩, ⟨fun n hn => ?_⟩⟩, by simp only [intOf]; omega⟩
          rcases HN.out n hn with h | h
          · exact HA.out n h
          · rw [h, HG.out]
            rfl
    · have hic : decide ((i : Int) < (t.length : Int)) = false := decide_eq_false (by omega)
      have hi2 : i = t.length := by omega
      have HF := Aside0.mk (show greatN t m = bm from by
        unfold greatN
        rw [HBM.out]
        have : t.any bigN = false := by
          rw [List.any_eq_false]
          intro n hn
          rw [hi2, List.take_length] at HA
          rw [HA.out n hn]
          exact Bool.false_ne_true
        rw [this, Bool.or_false])
      subst hi2
      cases bm with
      | true =>
        go_wp2_with fail
        go_ret
        exact ⟨by rw [HF.out]; rfl, Below.refl _ _⟩
      | false =>
        go_wp2_with fail
        go_ret
        exact ⟨by rw [HF.out]; rfl, Below.refl _ _⟩
end Go.Proofs.YtdijnmcfpbceaaaDoor.X

namespace Go.Proofs.YtdijnmcfpbceaaaDoor.X
open Go.RowKit Go.Proofs.YtdijnmcfpbceaaaDoorW.PrintWords Go.Proofs.YtdijnmcfpbceaaaDoorW.PrintLast Go.Proofs.YtdijnmcfpbceaaaDoorW.PrintMore Go.Proofs.YtdijnmcfpbceaaaDoor.P
set_option linter.unusedVariables false
set_option linter.unusedSimpArgs false
def blkN (n : Nat) : Nat := (n + 511) / 512
theorem qHg (n : Nat) : n + padN n = 512 * blkN n := by
  unfold padN blkN
  omega
theorem qEk (c x : UInt8) : ∀ ps : List (List UInt8), x ∈ joinL c ps → x = c ∨ ∃ p ∈ ps, x ∈ p
  | [], h => by cases h
  | [p], h => .inr ⟨p, by simp, h⟩
  | p :: q :: r, h => by
    have h : x ∈ p ++ c :: joinL c (q :: r) := h
    rcases List.mem_append.1 h with h | h
    · exact .inr ⟨p, by simp, h⟩
    · rcases List.mem_cons.1 h with h | h
      · exact .inl h
      · rcases qEk c x (q :: r) h with h | ⟨y, hy, h⟩
        · exact .inl h
        · exact .inr ⟨y, List.mem_cons_of_mem _ hy, h⟩
theorem qGt {s : List UInt8} (h : pathB s = true) : (0 : UInt8) ∉ s := by
  intro h0
  unfold pathB at h
  rw [Bool.or_eq_true, decide_eq_true_eq] at h
  rcases h with rfl | h
  · cases h0
  · rw [Bool.and_eq_true, Bool.and_eq_true, List.all_eq_true] at h
    rw [← qB5 47 s] at h0
    rcases qEk 47 0 _ h0 with e | ⟨p, hp, h1⟩
    · exact absurd e (by decide)
    · have h2 := h.1.2 p hp
      unfold partB at h2
      simp only [Bool.and_eq_true, decide_eq_true_eq] at h2
      exact h2.1.1.1.2 h1
theorem qEs (s : ByteArray) : (cutS s).data.toList = s.data.toList.take (min s.size 100) := by
  unfold cutS
  rw [ByteArray.data_extract, Array.toList_extract]
  simp [List.extract]
theorem qEr (s : ByteArray) : (cutS s).size = min s.size 100 := by
  rw [← qAn, qEs, List.length_take, qAn]
  omega
theorem qFa {s : ByteArray} (h : (0 : UInt8) ∉ s.data.toList) : (0 : UInt8) ∉ (cutS s).data.toList := by
  rw [qEs]
  exact fun h1 => h (List.mem_of_mem_take h1)
theorem qBh {n : S29} (h : goodN n = true) : pathB n.f0.data.toList = true ∧ n.f2.size ≤ 400 ∧ ((n.f1 = 1 ∧ n.f2.size = 0) ∨ n.f1 = 2 ∨ n.f1 = 3 ∨ (n.f1 = 4 ∧ n.f2.size ≠ 0 ∧ (0 : UInt8) ∉ n.f2.data.toList)) := by
  unfold goodN at h
  rw [Bool.and_eq_true, Bool.and_eq_true, decide_eq_true_eq] at h
  obtain ⟨⟨h1, h2⟩, h3⟩ := h
  refine ⟨h1, h2, ?_⟩
  split at h3
  · rename_i e
    exact .inl ⟨e, of_decide_eq_true h3⟩
  · split at h3
    · rename_i e
      rcases e with e | e
      · exact .inr (.inl e)
      · exact .inr (.inr (.inl e))
    · split at h3
      · rename_i e
        rw [Bool.and_eq_true, decide_eq_true_eq, decide_eq_true_eq] at h3
        exact .inr (.inr (.inr ⟨e, h3.1, h3.2⟩))
      · cases h3
theorem qDo {n : S29} (h : goodN n = true) : (nameN n).size ≠ 0 ∧ (0 : UInt8) ∉ (nameN n).data.toList ∧ (nameN n).size ≤ 200 ∧ (100 < (nameN n).size ↔ 100 < n.f0.size) ∧ (100 < n.f0.size → nameN n = n.f0) := by
  have hp := qGt (qBh h).1
  have hs := qBm (qBh h).1
  unfold nameN
  split
  · rename_i e
    have e1 : (⟨#[46]⟩ : ByteArray).size = 1 := rfl
    rw [e1]
    exact ⟨by omega, by decide, by omega, by omega, by omega⟩
  · rename_i e
    exact ⟨e, hp, hs, Iff.rfl, fun _ => rfl⟩
theorem qF3 {n : S29} (h : goodN n = true) : MayR (ownE n).name (ownE n).kind ((ownE n).data.size : Int) (ownE n).link ∧ (ownE n).data.size ≤ 400 := by
  obtain ⟨h1, h2, h3⟩ := qBh h
  obtain ⟨g1, g2, g3, _⟩ := qDo h
  have c1 := qEr (nameN n)
  have c2 := qFa g2
  have a1 : (cutS (nameN n)).size ≠ 0 := by omega
  have a2 : (cutS (nameN n)).size ≤ 100 := by omega
  generalize hcn : cutS (nameN n) = cn at *
  have e0 : (⟨#[]⟩ : ByteArray).size = 0 := rfl
  have e1 : (0 : UInt8) ∉ (⟨#[]⟩ : ByteArray).data.toList := by decide
  generalize hem : (⟨#[]⟩ : ByteArray) = em at e0 e1
  have eo : ownE n = if n.f1 = 4 then ⟨cn, n.f1, cutS n.f2, em⟩ else ⟨cn, n.f1, em, n.f2⟩ := by rw [← hem, ← hcn]; rfl
  rw [eo]
  clear eo hem hcn
  by_cases e : n.f1 = 4
  · rw [if_pos e]
    obtain ⟨k2, k3⟩ : n.f2.size ≠ 0 ∧ (0 : UInt8) ∉ n.f2.data.toList := by
      rcases h3 with ⟨k, _⟩ | k | k | ⟨_, k2, k3⟩
      · omega
      · omega
      · omega
      · exact ⟨k2, k3⟩
    have c3 := qEr n.f2
    have c4 := qFa k3
    have b1 : (cutS n.f2).size ≠ 0 := by omega
    have b2 : (cutS n.f2).size ≤ 100 := by omega
    generalize cutS n.f2 = cl at *
    exact ⟨⟨a1, a2, c2, b2, c4, by show 1 ≤ n.f1; omega, by show n.f1 ≤ 5; omega, ⟨fun _ => b1, fun _ => e⟩, .inl (by show (em.size : Int) = 0; omega)⟩, by show em.size ≤ 400; omega⟩
  · rw [if_neg e]
    have k5 : 1 ≤ n.f1 ∧ n.f1 ≤ 5 ∧ ((n.f2.size : Int) = 0 ∨ (n.f1 ≠ 1 ∧ n.f1 ≠ 4)) := by
      rcases h3 with ⟨k, k2⟩ | k | k | ⟨k, _⟩
      · exact ⟨by omega, by omega, .inl (by omega)⟩
      · exact ⟨by omega, by omega, .inr ⟨by omega, by omega⟩⟩
      · exact ⟨by omega, by omega, .inr ⟨by omega, by omega⟩⟩
      · exact absurd k e
    exact ⟨⟨a1, a2, c2, by show em.size ≤ 100; omega, e1, k5.1, k5.2.1, ⟨fun k => absurd k e, fun k => absurd e0 k⟩, k5.2.2⟩, h2⟩
theorem qF1 (n : Nat) : MayR ⟨#[112, 97, 120]⟩ 5 (n : Int) ⟨#[]⟩ :=
  ⟨by decide, by decide, by decide, by decide, by decide, by decide, by decide, by decide, .inr ⟨by decide, by decide⟩⟩
theorem qCd {e : EntT} (h : MayR e.name e.kind (e.data.size : Int) e.link) (hs : e.data.size ≤ 10000) : (entryB e).length = 512 * (1 + blkN e.data.size) := by
  have h1 := qHg e.data.size
  unfold entryB
  rw [List.length_append, List.length_append, List.length_replicate, qAw]
  unfold layR
  rw [if_pos ⟨h, by omega, by rw [Int.toNat_natCast]; omega⟩, qBi _ _ _ _ h.2.1 h.2.2.2.1]
  omega
theorem qEb (key value : ByteArray) (h : key.size + value.size ≤ 800000) : key.size + value.size + 4 ≤ (recT key value).size ∧ (recT key value).size ≤ key.size + value.size + 10 := by
  rw [qDy, ByteArray.size_append, qCe, qB2]
  have h1 := (qC7 (key.size + value.size + 3) (by omega)).1
  have h2 := qC8 (key.size + value.size + 3) (by omega)
  omega
def pathS : ByteArray := ⟨#[112, 97, 116, 104]⟩
def linkS : ByteArray := ⟨#[108, 105, 110, 107, 112, 97, 116, 104]⟩
def longN (n : S29) : Bool := decide (100 < n.f0.size) || (decide (n.f1 = 4) && decide (100 < n.f2.size))
def twiceN (n : S29) : Bool := decide (n.f1 = 4) && decide (100 < n.f0.size) && decide (100 < n.f2.size) && decide (512 < (recT pathS n.f0).size + (recT linkS n.f2).size)
def headN (n : S29) : Nat := 1 + if longN n = true then 1 else 0
def qE6 (n : S29) : Nat := (if n.f1 = 4 then 0 else blkN n.f2.size) + (if longN n = true then 1 else 0) + (if twiceN n = true then 1 else 0)
theorem qGw (n : S29) : blkN (ownE n).data.size = if n.f1 = 4 then 0 else blkN n.f2.size := by
  unfold ownE
  split
  · show (0 + 511) / 512 = 0
    rfl
  · rfl
theorem qDr {n : S29} (h : goodN n = true) : if longN n = true then (extraN n).size ≠ 0 ∧ (extraN n).size ≤ 1024 ∧ blkN (extraN n).size = 1 + (if twiceN n = true then 1 else 0) else (extraN n).size = 0 ∧ twiceN n = false := by
  obtain ⟨h1, h2, h3⟩ := qBh h
  obtain ⟨g1, g2, g3, g4, g5⟩ := qDo h
  have hs := qBm h1
  have e0 : (⟨#[]⟩ : ByteArray).size = 0 := rfl
  have e4 : pathS.size = 4 := rfl
  have e8 : linkS.size = 8 := rfl
  have r1 := qEb pathS (nameN n) (by omega)
  have r2 := qEb linkS n.f2 (by omega)
  have hx : extraN n = (if 100 < (nameN n).size then recT pathS (nameN n) else ⟨#[]⟩) ++ (if n.f1 = 4 ∧ 100 < n.f2.size then recT linkS n.f2 else ⟨#[]⟩) := rfl
  rw [hx, ByteArray.size_append]
  unfold longN twiceN blkN
  clear hx
  by_cases p : 100 < n.f0.size
  · have e5 := g5 p
    rw [← e5] at p ⊢
    by_cases k : n.f1 = 4
    · by_cases q : 100 < n.f2.size
      · simp only [p, k, q, if_true, and_self, decide_true, Bool.true_and, Bool.and_true, Bool.true_or, decide_eq_true_eq]
        refine ⟨by omega, by omega, ?_⟩
        split <;> omega
      · simp only [p, k, q, if_true, if_false, and_false, decide_true, decide_false, Bool.true_and, Bool.and_true, Bool.true_or, Bool.and_false, Bool.false_and, e0, Bool.false_eq_true]
        refine ⟨by omega, by omega, by omega⟩
    · simp only [p, k, if_true, if_false, false_and, decide_true, decide_false, Bool.true_and, Bool.and_true, Bool.true_or, Bool.and_false, Bool.false_and, e0, Bool.false_eq_true]
      refine ⟨by omega, by omega, by omega⟩
  · have p' : ¬ 100 < (nameN n).size := fun x => p (g4.1 x)
    by_cases k : n.f1 = 4
    · by_cases q : 100 < n.f2.size
      · simp only [p, p', k, q, if_true, if_false, and_self, decide_true, decide_false, Bool.true_and, Bool.and_true, Bool.or_true, Bool.and_false, Bool.false_and, e0, Bool.false_eq_true]
        refine ⟨by omega, by omega, by omega⟩
      · simp only [p, p', k, q, if_true, if_false, and_false, decide_true, decide_false, Bool.true_and, Bool.and_true, Bool.or_false, Bool.and_false, Bool.false_and, e0, Bool.false_eq_true]
        trivial
    · simp only [p, p', k, if_true, if_false, false_and, decide_true, decide_false, Bool.true_and, Bool.and_true, Bool.or_false, Bool.and_false, Bool.false_and, e0, Bool.false_eq_true]
      trivial
theorem qGd {n : S29} (h : goodN n = true) : (entsN n).length = headN n ∧ ((entsN n).flatMap entryB).length = 512 * (headN n + qE6 n) := by
  obtain ⟨m1, m2⟩ := qF3 h
  have l1 := qCd m1 (by omega)
  rw [qGw] at l1
  have hx := qDr h
  unfold entsN headN qE6
  by_cases hl : longN n = true
  · rw [if_pos hl] at hx
    obtain ⟨x1, x2, x3⟩ := hx
    have l2 := qCd (e := ⟨⟨#[112, 97, 120]⟩, 5, ⟨#[]⟩, extraN n⟩) (qF1 _) (by show (extraN n).size ≤ 10000; omega)
    have l2' : (entryB ⟨⟨#[112, 97, 120]⟩, 5, ⟨#[]⟩, extraN n⟩).length = 512 * (1 + blkN (extraN n).size) := l2
    rw [x3] at l2'
    rw [if_neg x1, if_pos hl]
    refine ⟨rfl, ?_⟩
    simp only [List.cons_append, List.nil_append, List.flatMap_cons, List.flatMap_nil, List.append_nil, List.length_append]
    omega
  · rw [if_neg hl] at hx
    obtain ⟨x1, x2⟩ := hx
    rw [if_pos x1, if_neg hl, x2]
    refine ⟨rfl, ?_⟩
    simp only [List.nil_append, List.flatMap_cons, List.flatMap_nil, List.append_nil]
    rw [l1]
    simp only [Bool.false_eq_true, if_false]
    omega
def sumH (t : List S29) : Nat := (t.map headN).sum
def sumK (t : List S29) : Nat := (t.map qE6).sum
theorem qE9 : ∀ (t : List S29), (∀ n ∈ t, goodN n = true) → (entsT t).length = sumH t ∧ ((entsT t).flatMap entryB).length = 512 * (sumH t + sumK t)
  | [], _ => ⟨rfl, rfl⟩
  | n :: t, h => by
    obtain ⟨a, b⟩ := qGd (h n List.mem_cons_self)
    obtain ⟨c, d⟩ := qE9 t (fun m hm => h m (List.mem_cons_of_mem _ hm))
    simp only [entsT, sumH, sumK] at c d ⊢
    rw [List.flatMap_cons, List.flatMap_append, List.length_append, List.length_append, List.map_cons, List.map_cons, List.sum_cons, List.sum_cons]
    exact ⟨by omega, by omega⟩
theorem qBo {t : List S29} (h : treeB t = true) : ∀ n ∈ t, goodN n = true := by
  unfold treeB at h
  rw [Bool.and_eq_true] at h
  exact (qCi t [] h.2).1
theorem qDx {t : List S29} (h : treeB t = true) : (tarB t).length = 512 * (sumH t + sumK t + 2) ∧ (entsT t).length = sumH t := by
  obtain ⟨a, b⟩ := qE9 t (qBo h)
  unfold tarB
  rw [List.length_append, List.length_replicate]
  exact ⟨by omega, a⟩
end Go.Proofs.YtdijnmcfpbceaaaDoor.X

namespace Go.Proofs.YtdijnmcfpbceaaaDoor.P
open Go.Proofs.YtdijnmcfpbceaaaDoor.X
open Go.RowKit Go.Proofs.YtdijnmcfpbceaaaDoorW.PrintWords Go.Proofs.YtdijnmcfpbceaaaDoorW.PrintLast Go.Proofs.YtdijnmcfpbceaaaDoorW.PrintMore
attribute [local go_sem] qAt qAy
set_option linter.unusedVariables false
set_option linter.unusedSimpArgs false
def head_field.f (l0 : List Int) : Option (ByteArray) := (strings_Cut.f (strOfNums l0) (⟨#[0]⟩ : ByteArray)).bind fun bt116 => (some bt116.1)
set_option maxHeartbeats 8000000 in
set_option maxRecDepth 100000 in
theorem head_field.calls (A0 : Option Addr) (c0 : Nat) (l0 : List Int) (r : ByteArray) (w : World) (hT : Aside0 (Tabs w)) (hr0 : Kd.C (Kd.int .u8) w A0 l0.length l0) (hc0 : l0.length ≤ c0) (h : head_field.f l0 = some r) :
  Calls Tryd.prog 45 #[.slice A0 l0.length c0] w fun e w' => e = .returned (.string r) ∧ Drawn0 w w' := by
 have HR0 := Aside0.mk hr0
 have HC0 := Aside0.mk hc0
 clear hr0 hc0
 have H : ((strings_Cut.f (strOfNums l0) (⟨#[0]⟩ : ByteArray)).bind fun bt116 => (some bt116.1)) = some r := h
 clear h
 replace H := Option.bind_eq_some_iff.mp H
 obtain ⟨⟨t116, t117, t118⟩, A20, H⟩ := H
 replace H : (some t116) = some r := H
 have A2 := Aside0.mk A20
 clear A20
 obtain rfl := Option.some.inj H
 have hcv3 := Kd.C_string (P := Tryd.prog) (A := A0) (c := c0) Tryd.underlying30 Tryd.underlying5 Tryd.underlying9 HR0.out
 have hcvq4 := qA1 (P := Tryd.prog) (A := A0) (c := c0) Tryd.underlying30 Tryd.underlying5 Tryd.underlying9 HR0.out
 go_enter Tryd.func45, Tryd.ntmps45
 go_wp2_with (first | ((with_reducible refine qAp (f := 74) rfl ?_); refine goesL_ (some 9) rfl rfl Tryd.func74 (by kernel_rfl) rfl #[.string (strOfNums l0), .string (⟨#[0]⟩ : ByteArray)] rfl (by (try simp only [List.map_toArray, List.map_cons, List.map_nil]); first | done | rfl | (simp only [List.length_drop, List.length_take]; rfl)) ?_; (with_reducible refine (strings_Cut.calls (strOfNums l0) (⟨#[0]⟩ : ByteArray) t116 t117 t118 _ ?side1 A2.out).mono ?_); (case side1 => exact ⟨Tabs.drawn hT.out (by repeat (first | exact Drawn0.refl _ | apply Drawn0.step))⟩); rintro e w' ⟨rfl, ⟨nd, rfl⟩⟩; refine ⟨_, rfl, ?_⟩))
 go_ret
 exact ⟨by first | rfl | (simp; done) | (simp [*]; done), by repeat (first | exact Drawn0.refl _ | apply Drawn0.step)⟩
end Go.Proofs.YtdijnmcfpbceaaaDoor.P

namespace Go.Proofs.YtdijnmcfpbceaaaDoor.P
open Go.Proofs.YtdijnmcfpbceaaaDoor.X
open Go.RowKit Go.Proofs.YtdijnmcfpbceaaaDoorW.PrintWords Go.Proofs.YtdijnmcfpbceaaaDoorW.PrintLast Go.Proofs.YtdijnmcfpbceaaaDoorW.PrintMore
attribute [local go_sem] qAt qAy
set_option linter.unusedVariables false
set_option linter.unusedSimpArgs false
def head_kind.f (a0 : Int) (a1 : ByteArray) : Option (Int) := if a0 = 53 then (some 1) else (if a0 = 50 then (some 4) else (if a0 = 120 then (some 5) else (if a1.toList = ([48, 48, 48, 48, 55, 53, 53] : List UInt8) then (some 3) else (some 2))))
set_option maxHeartbeats 8000000 in
set_option maxRecDepth 100000 in
theorem head_kind.calls (a0 : Int) (a1 : ByteArray) (r : Int) (w : World) (h : head_kind.f a0 a1 = some r) :
  Calls Tryd.prog 46 #[.int .u8 a0, .string a1] w fun e w' => e = .returned (.int .i64 r) ∧ Drawn0 w w' := by
 have H : (if a0 = 53 then (some 1) else (if a0 = 50 then (some 4) else (if a0 = 120 then (some 5) else (if a1.toList = ([48, 48, 48, 48, 55, 53, 53] : List UInt8) then (some 3) else (some 2))))) = some r := h
 clear h
 by_cases c3 : a0 = 53
 ·rw [if_pos c3] at H
  have c3b0 : (a0 == 53) = true := beq_iff_eq.mpr c3
  have c3b1 : (a0 != 53) = false := bne_eq_false_iff_eq.mpr c3
  clear c3
  obtain rfl := Option.some.inj H
  go_enter Tryd.func46, Tryd.ntmps46
  go_wp2
  go_ret
  exact ⟨by first | rfl | (simp; done) | (simp [*]; done), by repeat (first | exact Drawn0.refl _ | apply Drawn0.step)⟩
 ·rw [if_neg c3] at H
  have c3b0 : (a0 == 53) = false := beq_eq_false_iff_ne.mpr c3
  have c3b1 : (a0 != 53) = true := bne_iff_ne.mpr c3
  by_cases c4 : a0 = 50
  ·rw [if_pos c4] at H
   have c4b0 : (a0 == 50) = true := beq_iff_eq.mpr c4
   have c4b1 : (a0 != 50) = false := bne_eq_false_iff_eq.mpr c4
   clear c4
   obtain rfl := Option.some.inj H
   go_enter Tryd.func46, Tryd.ntmps46
   go_wp2
   go_ret
   exact ⟨by first | rfl | (simp; done) | (simp [*]; done), by repeat (first | exact Drawn0.refl _ | apply Drawn0.step)⟩
  ·rw [if_neg c4] at H
   have c4b0 : (a0 == 50) = false := beq_eq_false_iff_ne.mpr c4
   have c4b1 : (a0 != 50) = true := bne_iff_ne.mpr c4
   by_cases c5 : a0 = 120
   ·rw [if_pos c5] at H
    have c5b0 : (a0 == 120) = true := beq_iff_eq.mpr c5
    have c5b1 : (a0 != 120) = false := bne_eq_false_iff_eq.mpr c5
    clear c5
    obtain rfl := Option.some.inj H
    go_enter Tryd.func46, Tryd.ntmps46
    go_wp2
    go_ret
    exact ⟨by first | rfl | (simp; done) | (simp [*]; done), by repeat (first | exact Drawn0.refl _ | apply Drawn0.step)⟩
   ·rw [if_neg c5] at H
    have c5b0 : (a0 == 120) = false := beq_eq_false_iff_ne.mpr c5
    have c5b1 : (a0 != 120) = true := bne_iff_ne.mpr c5
    by_cases c6 : a1.toList = ([48, 48, 48, 48, 55, 53, 53] : List UInt8)
    ·rw [if_pos c6] at H
     have c6b0 : (a1.toList == ([48, 48, 48, 48, 55, 53, 53] : List UInt8)) = true := beq_iff_eq.mpr c6
     have c6b1 : (a1.toList != ([48, 48, 48, 48, 55, 53, 53] : List UInt8)) = false := bne_eq_false_iff_eq.mpr c6
     clear c6
     obtain rfl := Option.some.inj H
     go_enter Tryd.func46, Tryd.ntmps46
     go_wp2
     go_ret
     exact ⟨by first | rfl | (simp; done) | (simp [*]; done), by repeat (first | exact Drawn0.refl _ | apply Drawn0.step)⟩
    ·rw [if_neg c6] at H
     have c6b0 : (a1.toList == ([48, 48, 48, 48, 55, 53, 53] : List UInt8)) = false := beq_eq_false_iff_ne.mpr c6
     have c6b1 : (a1.toList != ([48, 48, 48, 48, 55, 53, 53] : List UInt8)) = true := bne_iff_ne.mpr c6
     obtain rfl := Option.some.inj H
     go_enter Tryd.func46, Tryd.ntmps46
     go_wp2
     go_ret
     exact ⟨by first | rfl | (simp; done) | (simp [*]; done), by repeat (first | exact Drawn0.refl _ | apply Drawn0.step)⟩
end Go.Proofs.YtdijnmcfpbceaaaDoor.P

namespace Go.Proofs.YtdijnmcfpbceaaaDoor.P
open Go.Proofs.YtdijnmcfpbceaaaDoor.X
open Go.RowKit Go.Proofs.YtdijnmcfpbceaaaDoorW.PrintWords Go.Proofs.YtdijnmcfpbceaaaDoorW.PrintLast Go.Proofs.YtdijnmcfpbceaaaDoorW.PrintMore
attribute [local go_sem] qAt qAy
set_option linter.unusedVariables false
set_option linter.unusedSimpArgs false
def head_Read.f (k : Nat) (l0 : List Int) : Option (ByteArray × Int × Int × ByteArray × Bool) := if (l0.length : Int) = 512 then (if 100 ≤ (l0.length : Int) then ((head_field.f (l0.take 100)).bind fun t120 => (if 157 ≤ 257 then (if 257 ≤ (l0.length : Int) then ((head_field.f ((l0.take 257).drop 157)).bind fun t122 => (if 156 < (l0.length : Int) then (if 100 ≤ 108 then (if 108 ≤ (l0.length : Int) then ((head_field.f ((l0.take 108).drop 100)).bind fun t125 => ((head_kind.f (rd l0 156) t125).bind fun t126 => (if 124 ≤ 136 then (if 136 ≤ (l0.length : Int) then ((head_field.f ((l0.take 136).drop 124)).bind fun t128 => ((head_OfOctal.f k t128).bind fun bt129 => ((head_Lay.f k t120 t126 bt129.1 t122).bind fun bt131 => (if bt131.2 = true then (if (strOfNums bt131.1).toList = (strOfNums l0).toList then (some (t120, t126, bt129.1, t122, true)) else (some ((⟨#[]⟩ : ByteArray), 0, 0, (⟨#[]⟩ : ByteArray), false))) else (some ((⟨#[]⟩ : ByteArray), 0, 0, (⟨#[]⟩ : ByteArray), false)))))) else (none)) else (none)))) else (none)) else (none)) else (none))) else (none)) else (none))) else (none)) else (some ((⟨#[]⟩ : ByteArray), 0, 0, (⟨#[]⟩ : ByteArray), false))
set_option maxHeartbeats 8000000 in
set_option maxRecDepth 100000 in
theorem head_Read.calls (k : Nat) (A0 : Option Addr) (c0 : Nat) (l0 : List Int) (r1 : ByteArray) (r2 : Int) (r3 : Int) (r4 : ByteArray) (r5 : Bool) (w : World) (hT : Aside0 (Tabs w)) (hr0 : Kd.C (Kd.int .u8) w A0 l0.length l0) (hc0 : l0.length ≤ c0) (h : head_Read.f k l0 = some (r1, r2, r3, r4, r5)) :
  Calls Tryd.prog 28 #[.slice A0 l0.length c0] w fun e w' => e = .returned (.tuple #[.string r1, .int .i64 r2, .int .i64 r3, .string r4, .bool r5]) ∧ Below w.heap.size w w' := by
 have HR0 := Aside0.mk hr0
 have HC0 := Aside0.mk hc0
 clear hr0 hc0
 have HB := Aside0.mk (Below.refl w.heap.size w)
 have H : (if (l0.length : Int) = 512 then (if 100 ≤ (l0.length : Int) then ((head_field.f (l0.take 100)).bind fun t120 => (if 157 ≤ 257 then (if 257 ≤ (l0.length : Int) then ((head_field.f ((l0.take 257).drop 157)).bind fun t122 => (if 156 < (l0.length : Int) then (if 100 ≤ 108 then (if 108 ≤ (l0.length : Int) then ((head_field.f ((l0.take 108).drop 100)).bind fun t125 => ((head_kind.f (rd l0 156) t125).bind fun t126 => (if 124 ≤ 136 then (if 136 ≤ (l0.length : Int) then ((head_field.f ((l0.take 136).drop 124)).bind fun t128 => ((head_OfOctal.f k t128).bind fun bt129 => ((head_Lay.f k t120 t126 bt129.1 t122).bind fun bt131 => (if bt131.2 = true then (if (strOfNums bt131.1).toList = (strOfNums l0).toList then (some (t120, t126, bt129.1, t122, true)) else (some ((⟨#[]⟩ : ByteArray), 0, 0, (⟨#[]⟩ : ByteArray), false))) else (some ((⟨#[]⟩ : ByteArray), 0, 0, (⟨#[]⟩ : ByteArray), false)))))) else (none)) else (none)))) else (none)) else (none)) else (none))) else (none)) else (none))) else (none)) else (some ((⟨#[]⟩ : ByteArray), 0, 0, (⟨#[]⟩ : ByteArray), false))) = some (r1, r2, r3, r4, r5) := h
 clear h
 by_cases c2 : (l0.length : Int) = 512
 ·rw [if_pos c2] at H
  have c2b0 : ((l0.length : Int) == 512) = true := beq_iff_eq.mpr c2
  have c2b1 : ((l0.length : Int) != 512) = false := bne_eq_false_iff_eq.mpr c2
  clear c2
  by_cases c3 : 100 ≤ (l0.length : Int)
  ·rw [if_pos c3] at H
   have c3b0 := eq_true c3
   have c3b1 : decide (100 ≤ (l0.length : Int)) = true := decide_eq_true c3
   clear c3
   replace H := Option.bind_eq_some_iff.mp H
   obtain ⟨t120, A40, H⟩ := H
   replace H : (if 157 ≤ 257 then (if 257 ≤ (l0.length : Int) then ((head_field.f ((l0.take 257).drop 157)).bind fun t122 => (if 156 < (l0.length : Int) then (if 100 ≤ 108 then (if 108 ≤ (l0.length : Int) then ((head_field.f ((l0.take 108).drop 100)).bind fun t125 => ((head_kind.f (rd l0 156) t125).bind fun t126 => (if 124 ≤ 136 then (if 136 ≤ (l0.length : Int) then ((head_field.f ((l0.take 136).drop 124)).bind fun t128 => ((head_OfOctal.f k t128).bind fun bt129 => ((head_Lay.f k t120 t126 bt129.1 t122).bind fun bt131 => (if bt131.2 = true then (if (strOfNums bt131.1).toList = (strOfNums l0).toList then (some (t120, t126, bt129.1, t122, true)) else (some ((⟨#[]⟩ : ByteArray), 0, 0, (⟨#[]⟩ : ByteArray), false))) else (some ((⟨#[]⟩ : ByteArray), 0, 0, (⟨#[]⟩ : ByteArray), false)))))) else (none)) else (none)))) else (none)) else (none)) else (none))) else (none)) else (none)) = some (r1, r2, r3, r4, r5) := H
   have A4 := Aside0.mk A40
   clear A40
   by_cases c5 : 157 ≤ 257
   ·rw [if_pos c5] at H
    have c5b0 := eq_true c5
    have c5b1 : decide (157 ≤ 257) = true := decide_eq_true c5
    clear c5
    by_cases c6 : 257 ≤ (l0.length : Int)
    ·rw [if_pos c6] at H
     have c6b0 := eq_true c6
     have c6b1 : decide (257 ≤ (l0.length : Int)) = true := decide_eq_true c6
     clear c6
     replace H := Option.bind_eq_some_iff.mp H
     obtain ⟨t122, A70, H⟩ := H
     replace H : (if 156 < (l0.length : Int) then (if 100 ≤ 108 then (if 108 ≤ (l0.length : Int) then ((head_field.f ((l0.take 108).drop 100)).bind fun t125 => ((head_kind.f (rd l0 156) t125).bind fun t126 => (if 124 ≤ 136 then (if 136 ≤ (l0.length : Int) then ((head_field.f ((l0.take 136).drop 124)).bind fun t128 => ((head_OfOctal.f k t128).bind fun bt129 => ((head_Lay.f k t120 t126 bt129.1 t122).bind fun bt131 => (if bt131.2 = true then (if (strOfNums bt131.1).toList = (strOfNums l0).toList then (some (t120, t126, bt129.1, t122, true)) else (some ((⟨#[]⟩ : ByteArray), 0, 0, (⟨#[]⟩ : ByteArray), false))) else (some ((⟨#[]⟩ : ByteArray), 0, 0, (⟨#[]⟩ : ByteArray), false)))))) else (none)) else (none)))) else (none)) else (none)) else (none)) = some (r1, r2, r3, r4, r5) := H
     have A7 := Aside0.mk A70
     clear A70
     by_cases c8 : 156 < (l0.length : Int)
     ·rw [if_pos c8] at H
      have c8b0 : decide (156 < (l0.length : Int)) = true := decide_eq_true c8
      have c8b1 : decide (156 < l0.length) = true := decide_eq_true (by omega)
      clear c8
      by_cases c9 : 100 ≤ 108
      ·rw [if_pos c9] at H
       have c9b0 := eq_true c9
       have c9b1 : decide (100 ≤ 108) = true := decide_eq_true c9
       clear c9
       by_cases c10 : 108 ≤ (l0.length : Int)
       ·rw [if_pos c10] at H
        have c10b0 := eq_true c10
        have c10b1 : decide (108 ≤ (l0.length : Int)) = true := decide_eq_true c10
        clear c10
        replace H := Option.bind_eq_some_iff.mp H
        obtain ⟨t125, A110, H⟩ := H
        replace H : ((head_kind.f (rd l0 156) t125).bind fun t126 => (if 124 ≤ 136 then (if 136 ≤ (l0.length : Int) then ((head_field.f ((l0.take 136).drop 124)).bind fun t128 => ((head_OfOctal.f k t128).bind fun bt129 => ((head_Lay.f k t120 t126 bt129.1 t122).bind fun bt131 => (if bt131.2 = true then (if (strOfNums bt131.1).toList = (strOfNums l0).toList then (some (t120, t126, bt129.1, t122, true)) else (some ((⟨#[]⟩ : ByteArray), 0, 0, (⟨#[]⟩ : ByteArray), false))) else (some ((⟨#[]⟩ : ByteArray), 0, 0, (⟨#[]⟩ : ByteArray), false)))))) else (none)) else (none))) = some (r1, r2, r3, r4, r5) := H
        have A11 := Aside0.mk A110
        clear A110
        replace H := Option.bind_eq_some_iff.mp H
        obtain ⟨t126, A120, H⟩ := H
        replace H : (if 124 ≤ 136 then (if 136 ≤ (l0.length : Int) then ((head_field.f ((l0.take 136).drop 124)).bind fun t128 => ((head_OfOctal.f k t128).bind fun bt129 => ((head_Lay.f k t120 t126 bt129.1 t122).bind fun bt131 => (if bt131.2 = true then (if (strOfNums bt131.1).toList = (strOfNums l0).toList then (some (t120, t126, bt129.1, t122, true)) else (some ((⟨#[]⟩ : ByteArray), 0, 0, (⟨#[]⟩ : ByteArray), false))) else (some ((⟨#[]⟩ : ByteArray), 0, 0, (⟨#[]⟩ : ByteArray), false)))))) else (none)) else (none)) = some (r1, r2, r3, r4, r5) := H
        have A12 := Aside0.mk A120
        clear A120
        by_cases c13 : 124 ≤ 136
        ·rw [if_pos c13] at H
         have c13b0 := eq_true c13
         have c13b1 : decide (124 ≤ 136) = true := decide_eq_true c13
         clear c13
         by_cases c14 : 136 ≤ (l0.length : Int)
         ·rw [if_pos c14] at H
          have c14b0 := eq_true c14
          have c14b1 : decide (136 ≤ (l0.length : Int)) = true := decide_eq_true c14
          clear c14
          replace H := Option.bind_eq_some_iff.mp H
          obtain ⟨t128, A150, H⟩ := H
          replace H : ((head_OfOctal.f k t128).bind fun bt129 => ((head_Lay.f k t120 t126 bt129.1 t122).bind fun bt131 => (if bt131.2 = true then (if (strOfNums bt131.1).toList = (strOfNums l0).toList then (some (t120, t126, bt129.1, t122, true)) else (some ((⟨#[]⟩ : ByteArray), 0, 0, (⟨#[]⟩ : ByteArray), false))) else (some ((⟨#[]⟩ : ByteArray), 0, 0, (⟨#[]⟩ : ByteArray), false))))) = some (r1, r2, r3, r4, r5) := H
          have A15 := Aside0.mk A150
          clear A150
          replace H := Option.bind_eq_some_iff.mp H
          obtain ⟨⟨t129, t130⟩, A160, H⟩ := H
          replace H : ((head_Lay.f k t120 t126 t129 t122).bind fun bt131 => (if bt131.2 = true then (if (strOfNums bt131.1).toList = (strOfNums l0).toList then (some (t120, t126, t129, t122, true)) else (some ((⟨#[]⟩ : ByteArray), 0, 0, (⟨#[]⟩ : ByteArray), false))) else (some ((⟨#[]⟩ : ByteArray), 0, 0, (⟨#[]⟩ : ByteArray), false)))) = some (r1, r2, r3, r4, r5) := H
          have A16 := Aside0.mk A160
          clear A160
          replace H := Option.bind_eq_some_iff.mp H
          obtain ⟨⟨t131, t132⟩, A170, H⟩ := H
          replace H : (if t132 = true then (if (strOfNums t131).toList = (strOfNums l0).toList then (some (t120, t126, t129, t122, true)) else (some ((⟨#[]⟩ : ByteArray), 0, 0, (⟨#[]⟩ : ByteArray), false))) else (some ((⟨#[]⟩ : ByteArray), 0, 0, (⟨#[]⟩ : ByteArray), false))) = some (r1, r2, r3, r4, r5) := H
          have A17 := Aside0.mk A170
          clear A170
          by_cases c18 : t132 = true
          ·subst c18
           have H1 : (if (strOfNums t131).toList = (strOfNums l0).toList then (some (t120, t126, t129, t122, true)) else (some ((⟨#[]⟩ : ByteArray), 0, 0, (⟨#[]⟩ : ByteArray), false))) = some (r1, r2, r3, r4, r5) := by rw [if_pos rfl] at H; exact H
           clear H
           have H := H1
           clear H1
           by_cases c19 : (strOfNums t131).toList = (strOfNums l0).toList
           ·rw [if_pos c19] at H
            have c19b0 : ((strOfNums t131).toList == (strOfNums l0).toList) = true := beq_iff_eq.mpr c19
            have c19b1 : ((strOfNums t131).toList != (strOfNums l0).toList) = false := bne_eq_false_iff_eq.mpr c19
            clear c19
            simp only [Option.some.injEq, Prod.mk.injEq] at H
            obtain ⟨rfl, rfl, rfl, rfl, rfl⟩ := H
            obtain ⟨i020, hi020, _, hsz20, _⟩ := info_parts info5
            obtain ⟨hcut20, hA20, hC20⟩ := qBq (P := Tryd.prog) (Value.int .u8) 0 30 5 .i64 Tryd.underlying30 hi020 hsz20 A0 c0 l0 100 (by omega) (of_decide_eq_true (by first | (with_reducible assumption) | assumption)) HC0.out
            have HR119 := Aside0.mk (Kd.C_of_reads (h1 := fun _ => rfl) (hA20 _ (Kd.reads_of_C HR0.out)))
            have HC119 := Aside0.mk hC20
            clear hA20 hC20 hi020 hsz20
            obtain ⟨i021, hi021, _, hsz21, _⟩ := info_parts info5
            obtain ⟨A21, hcut21, hA21, hC21⟩ := qAl (P := Tryd.prog) (Value.int .u8) 0 30 5 .i64 .i64 Tryd.underlying30 hi021 hsz21 A0 c0 l0 157 257 (by omega) (by first | omega | exact of_decide_eq_true (by first | (with_reducible assumption) | assumption)) (of_decide_eq_true (by first | (with_reducible assumption) | assumption)) HC0.out
            have HR121 := Aside0.mk (Kd.C_of_reads (h1 := fun _ => rfl) (hA21 _ (Kd.reads_of_C HR0.out)))
            have HC121 := Aside0.mk hC21
            clear hA21 hC21 hi021 hsz21
            go_enter Tryd.func28, Tryd.ntmps28
            go_wp2_with (first | (go_at_call 45; (with_reducible refine (head_field.calls _ _ (l0.take 100) t120 _ ?side1 ?side2 ?side3 A4.out).mono ?_); (case side1 => exact ⟨Tabs.below hT.out (by repeat (first | (with_reducible first | exact HB.out | apply qAb | apply qAa | apply qAc) | exact HB.out))⟩); (case side2 => repeat (first | exact HR119.out | (with_reducible refine Kd.C_alloc ?_ _) | (with_reducible refine Kd.C_drewN ?_ _) | (with_reducible refine Kd.C_drew ?_))); (case side3 => exact HC119.out); rintro e w' ⟨rfl, ⟨nd, rfl⟩⟩; (try first | exact ⟨rfl, _, World.drewN_drewN _ _ _⟩ | exact ⟨rfl, _, Eq.trans (World.drewN_drewN _ _ _) (congrArg (World.drewN _) (Nat.add_assoc _ _ _))⟩)) | (go_at_call 45; (with_reducible refine (head_field.calls _ _ ((l0.take 257).drop 157) t122 _ ?side1 ?side2 ?side3 A7.out).mono ?_); (case side1 => exact ⟨Tabs.below hT.out (by repeat (first | (with_reducible first | exact HB.out | apply qAb | apply qAa | apply qAc) | exact HB.out))⟩); (case side2 => repeat (first | exact HR121.out | (with_reducible refine Kd.C_alloc ?_ _) | (with_reducible refine Kd.C_drewN ?_ _) | (with_reducible refine Kd.C_drew ?_))); (case side3 => exact HC121.out); rintro e w' ⟨rfl, ⟨nd, rfl⟩⟩; (try first | exact ⟨rfl, _, World.drewN_drewN _ _ _⟩ | exact ⟨rfl, _, Eq.trans (World.drewN_drewN _ _ _) (congrArg (World.drewN _) (Nat.add_assoc _ _ _))⟩); have p123 : 0 ≤ (156 : Int) := (by omega); have q123 : 156 < (l0.length : Int) := of_decide_eq_true (by first | (with_reducible assumption) | assumption); obtain ⟨ad123, e123, hx123_0⟩ := Kd.at_int HR0.out 156 p123 q123; cases e123; (try simp only [show (156 : Int).toNat = 156 from rfl, Nat.reduceMul, Nat.reduceEqDiff, Go.Addr.add, ↓reduceIte] at hx123_0); have qi123 : (156 < l0.length) = True := eq_true (by omega); (try rw [show ((156 : Int)).toNat = 156 from rfl] at hx123_0); replace p123 := eq_true p123; replace q123 := eq_true q123; obtain ⟨i022, hi022, _, hsz22, _⟩ := info_parts info5; obtain ⟨A22, hcut22, hA22, hC22⟩ := qAl (P := Tryd.prog) (Value.int .u8) 0 30 5 .i64 .i64 Tryd.underlying30 hi022 hsz22 (some ad123) c0 l0 100 108 (by omega) (by first | omega | exact of_decide_eq_true (by first | (with_reducible assumption) | assumption)) (of_decide_eq_true (by first | (with_reducible assumption) | assumption)) HC0.out; have HR124 := Aside0.mk (Kd.C_of_reads (h1 := fun _ => rfl) (hA22 _ (Kd.reads_of_C HR0.out))); have HC124 := Aside0.mk hC22; clear hA22 hC22 hi022 hsz22) | (go_at_call 45; (with_reducible refine (head_field.calls _ _ ((l0.take 108).drop 100) t125 _ ?side1 ?side2 ?side3 A11.out).mono ?_); (case side1 => exact ⟨Tabs.below hT.out (by repeat (first | (with_reducible first | exact HB.out | apply qAb | apply qAa | apply qAc) | exact HB.out))⟩); (case side2 => repeat (first | exact HR124.out | (with_reducible refine Kd.C_alloc ?_ _) | (with_reducible refine Kd.C_drewN ?_ _) | (with_reducible refine Kd.C_drew ?_))); (case side3 => exact HC124.out); rintro e w' ⟨rfl, ⟨nd, rfl⟩⟩; (try first | exact ⟨rfl, _, World.drewN_drewN _ _ _⟩ | exact ⟨rfl, _, Eq.trans (World.drewN_drewN _ _ _) (congrArg (World.drewN _) (Nat.add_assoc _ _ _))⟩)) | (go_at_call 46; (with_reducible refine (head_kind.calls (rd l0 156) t125 t126 _ A12.out).mono ?_); rintro e w' ⟨rfl, ⟨nd, rfl⟩⟩; (try first | exact ⟨rfl, _, World.drewN_drewN _ _ _⟩ | exact ⟨rfl, _, Eq.trans (World.drewN_drewN _ _ _) (congrArg (World.drewN _) (Nat.add_assoc _ _ _))⟩); obtain ⟨i023, hi023, _, hsz23, _⟩ := info_parts info5; obtain ⟨A23, hcut23, hA23, hC23⟩ := qAl (P := Tryd.prog) (Value.int .u8) 0 30 5 .i64 .i64 Tryd.underlying30 hi023 hsz23 (some ad123) c0 l0 124 136 (by omega) (by first | omega | exact of_decide_eq_true (by first | (with_reducible assumption) | assumption)) (of_decide_eq_true (by first | (with_reducible assumption) | assumption)) HC0.out; have HR127 := Aside0.mk (Kd.C_of_reads (h1 := fun _ => rfl) (hA23 _ (Kd.reads_of_C HR0.out))); have HC127 := Aside0.mk hC23; clear hA23 hC23 hi023 hsz23) | (go_at_call 45; (with_reducible refine (head_field.calls _ _ ((l0.take 136).drop 124) t128 _ ?side1 ?side2 ?side3 A15.out).mono ?_); (case side1 => exact ⟨Tabs.below hT.out (by repeat (first | (with_reducible first | exact HB.out | apply qAb | apply qAa | apply qAc) | exact HB.out))⟩); (case side2 => repeat (first | exact HR127.out | (with_reducible refine Kd.C_alloc ?_ _) | (with_reducible refine Kd.C_drewN ?_ _) | (with_reducible refine Kd.C_drew ?_))); (case side3 => exact HC127.out); rintro e w' ⟨rfl, ⟨nd, rfl⟩⟩; (try first | exact ⟨rfl, _, World.drewN_drewN _ _ _⟩ | exact ⟨rfl, _, Eq.trans (World.drewN_drewN _ _ _) (congrArg (World.drewN _) (Nat.add_assoc _ _ _))⟩)) | (go_at_call 47; (with_reducible refine (head_OfOctal.calls k t128 t129 t130 _ A16.out).mono ?_); rintro e w' ⟨rfl, ⟨nd, rfl⟩⟩; (try first | exact ⟨rfl, _, World.drewN_drewN _ _ _⟩ | exact ⟨rfl, _, Eq.trans (World.drewN_drewN _ _ _) (congrArg (World.drewN _) (Nat.add_assoc _ _ _))⟩)) | (go_at_call 48; (with_reducible refine (head_Lay.calls k t120 t126 t129 t122 t131 true _ ?side1 A17.out).mono ?_); (case side1 => exact ⟨Tabs.below hT.out (by repeat (first | (with_reducible first | exact HB.out | apply qAb | apply qAa | apply qAc) | exact HB.out))⟩); rintro e w24 ⟨v133, rfl, ho0, hb⟩; have n0_ := Aside0.mk (Kd.R_lower ho0 (qAm (by repeat (first | (with_reducible first | exact HB.out | apply qAb | apply qAa | apply qAc) | exact HB.out)))); have n1_ := Aside0.mk (qAe (by repeat (first | (with_reducible first | exact HB.out | apply qAb | apply qAa | apply qAc) | exact HB.out)) hb); clear HB; have HO134 := n0_; have HB := n1_; clear n0_ n1_; (try clear hb); (try clear hb2); (try clear hk); (try clear hi); (try clear ho0); have hcv25 := qBg (P := Tryd.prog) Tryd.underlying30 Tryd.underlying5 Tryd.underlying9 (Kd.own_of_R HO134.out); have hcv26 := Kd.C_string (P := Tryd.prog) (A := (some ad123)) (c := c0) Tryd.underlying30 Tryd.underlying5 Tryd.underlying9 (Kd.C_below HR0.out HB.out); have hcvq27 := qA1 (P := Tryd.prog) (A := (some ad123)) (c := c0) Tryd.underlying30 Tryd.underlying5 Tryd.underlying9 (Kd.C_below HR0.out HB.out)))
            repeat (go_quiet (first | (go_at_call 45; refine qAk (n' := (l0.take 100).length) (by first | rfl | simp) ?_; (with_reducible refine (head_field.calls _ _ (l0.take 100) t120 _ ?side1 ?side2 ?side3 A4.out).mono ?_); (case side1 => exact ⟨Tabs.below hT.out (by repeat (first | (with_reducible first | exact HB.out | apply qAb | apply qAa | apply qAc) | exact HB.out))⟩); (case side2 => repeat (first | exact HR119.out | (with_reducible refine Kd.C_alloc ?_ _) | (with_reducible refine Kd.C_drewN ?_ _) | (with_reducible refine Kd.C_drew ?_))); (case side3 => exact HC119.out); rintro e w' ⟨rfl, ⟨nd, rfl⟩⟩; (try first | exact ⟨rfl, _, World.drewN_drewN _ _ _⟩ | exact ⟨rfl, _, Eq.trans (World.drewN_drewN _ _ _) (congrArg (World.drewN _) (Nat.add_assoc _ _ _))⟩); (try clear A4)) | (go_at_call 45; refine qAk (n' := ((l0.take 257).drop 157).length) (by first | rfl | simp) ?_; (with_reducible refine (head_field.calls _ _ ((l0.take 257).drop 157) t122 _ ?side1 ?side2 ?side3 A7.out).mono ?_); (case side1 => exact ⟨Tabs.below hT.out (by repeat (first | (with_reducible first | exact HB.out | apply qAb | apply qAa | apply qAc) | exact HB.out))⟩); (case side2 => repeat (first | exact HR121.out | (with_reducible refine Kd.C_alloc ?_ _) | (with_reducible refine Kd.C_drewN ?_ _) | (with_reducible refine Kd.C_drew ?_))); (case side3 => exact HC121.out); rintro e w' ⟨rfl, ⟨nd, rfl⟩⟩; (try first | exact ⟨rfl, _, World.drewN_drewN _ _ _⟩ | exact ⟨rfl, _, Eq.trans (World.drewN_drewN _ _ _) (congrArg (World.drewN _) (Nat.add_assoc _ _ _))⟩); have p123 : 0 ≤ (156 : Int) := (by omega); have q123 : 156 < (l0.length : Int) := of_decide_eq_true (by first | (with_reducible assumption) | assumption); obtain ⟨ad123, e123, hx123_0⟩ := Kd.at_int HR0.out 156 p123 q123; cases e123; (try simp only [show (156 : Int).toNat = 156 from rfl, Nat.reduceMul, Nat.reduceEqDiff, Go.Addr.add, ↓reduceIte] at hx123_0); have qi123 : (156 < l0.length) = True := eq_true (by omega); (try rw [show ((156 : Int)).toNat = 156 from rfl] at hx123_0); replace p123 := eq_true p123; replace q123 := eq_true q123; obtain ⟨i022, hi022, _, hsz22, _⟩ := info_parts info5; obtain ⟨A22, hcut22, hA22, hC22⟩ := qAl (P := Tryd.prog) (Value.int .u8) 0 30 5 .i64 .i64 Tryd.underlying30 hi022 hsz22 (some ad123) c0 l0 100 108 (by omega) (by first | omega | exact of_decide_eq_true (by first | (with_reducible assumption) | assumption)) (of_decide_eq_true (by first | (with_reducible assumption) | assumption)) HC0.out; have HR124 := Aside0.mk (Kd.C_of_reads (h1 := fun _ => rfl) (hA22 _ (Kd.reads_of_C HR0.out))); have HC124 := Aside0.mk hC22; clear hA22 hC22 hi022 hsz22; (try clear A7)) | (go_at_call 45; refine qAk (n' := ((l0.take 108).drop 100).length) (by first | rfl | simp) ?_; (with_reducible refine (head_field.calls _ _ ((l0.take 108).drop 100) t125 _ ?side1 ?side2 ?side3 A11.out).mono ?_); (case side1 => exact ⟨Tabs.below hT.out (by repeat (first | (with_reducible first | exact HB.out | apply qAb | apply qAa | apply qAc) | exact HB.out))⟩); (case side2 => repeat (first | exact HR124.out | (with_reducible refine Kd.C_alloc ?_ _) | (with_reducible refine Kd.C_drewN ?_ _) | (with_reducible refine Kd.C_drew ?_))); (case side3 => exact HC124.out); rintro e w' ⟨rfl, ⟨nd, rfl⟩⟩; (try first | exact ⟨rfl, _, World.drewN_drewN _ _ _⟩ | exact ⟨rfl, _, Eq.trans (World.drewN_drewN _ _ _) (congrArg (World.drewN _) (Nat.add_assoc _ _ _))⟩); (try clear A11)) | (go_at_call 46; (with_reducible refine (head_kind.calls (rd l0 156) t125 t126 _ A12.out).mono ?_); rintro e w' ⟨rfl, ⟨nd, rfl⟩⟩; (try first | exact ⟨rfl, _, World.drewN_drewN _ _ _⟩ | exact ⟨rfl, _, Eq.trans (World.drewN_drewN _ _ _) (congrArg (World.drewN _) (Nat.add_assoc _ _ _))⟩); obtain ⟨i023, hi023, _, hsz23, _⟩ := info_parts info5; obtain ⟨A23, hcut23, hA23, hC23⟩ := qAl (P := Tryd.prog) (Value.int .u8) 0 30 5 .i64 .i64 Tryd.underlying30 hi023 hsz23 (some ad123) c0 l0 124 136 (by omega) (by first | omega | exact of_decide_eq_true (by first | (with_reducible assumption) | assumption)) (of_decide_eq_true (by first | (with_reducible assumption) | assumption)) HC0.out; have HR127 := Aside0.mk (Kd.C_of_reads (h1 := fun _ => rfl) (hA23 _ (Kd.reads_of_C HR0.out))); have HC127 := Aside0.mk hC23; clear hA23 hC23 hi023 hsz23; (try clear A12)) | (go_at_call 45; refine qAk (n' := ((l0.take 136).drop 124).length) (by first | rfl | simp) ?_; (with_reducible refine (head_field.calls _ _ ((l0.take 136).drop 124) t128 _ ?side1 ?side2 ?side3 A15.out).mono ?_); (case side1 => exact ⟨Tabs.below hT.out (by repeat (first | (with_reducible first | exact HB.out | apply qAb | apply qAa | apply qAc) | exact HB.out))⟩); (case side2 => repeat (first | exact HR127.out | (with_reducible refine Kd.C_alloc ?_ _) | (with_reducible refine Kd.C_drewN ?_ _) | (with_reducible refine Kd.C_drew ?_))); (case side3 => exact HC127.out); rintro e w' ⟨rfl, ⟨nd, rfl⟩⟩; (try first | exact ⟨rfl, _, World.drewN_drewN _ _ _⟩ | exact ⟨rfl, _, Eq.trans (World.drewN_drewN _ _ _) (congrArg (World.drewN _) (Nat.add_assoc _ _ _))⟩); (try clear A15)) | (go_at_call 47; (with_reducible refine (head_OfOctal.calls k t128 t129 t130 _ A16.out).mono ?_); rintro e w' ⟨rfl, ⟨nd, rfl⟩⟩; (try first | exact ⟨rfl, _, World.drewN_drewN _ _ _⟩ | exact ⟨rfl, _, Eq.trans (World.drewN_drewN _ _ _) (congrArg (World.drewN _) (Nat.add_assoc _ _ _))⟩); (try clear A16)) | (go_at_call 48; (with_reducible refine (head_Lay.calls k t120 t126 t129 t122 t131 true _ ?side1 A17.out).mono ?_); (case side1 => exact ⟨Tabs.below hT.out (by repeat (first | (with_reducible first | exact HB.out | apply qAb | apply qAa | apply qAc) | exact HB.out))⟩); rintro e w24 ⟨v133, rfl, ho0, hb⟩; have n0_ := Aside0.mk (Kd.R_lower ho0 (qAm (by repeat (first | (with_reducible first | exact HB.out | apply qAb | apply qAa | apply qAc) | exact HB.out)))); have n1_ := Aside0.mk (qAe (by repeat (first | (with_reducible first | exact HB.out | apply qAb | apply qAa | apply qAc) | exact HB.out)) hb); clear HB; have HO134 := n0_; have HB := n1_; clear n0_ n1_; (try clear hb); (try clear hb2); (try clear hk); (try clear hi); (try clear ho0); have hcv25 := qBg (P := Tryd.prog) Tryd.underlying30 Tryd.underlying5 Tryd.underlying9 (Kd.own_of_R HO134.out); have hcv26 := Kd.C_string (P := Tryd.prog) (A := (some ad123)) (c := c0) Tryd.underlying30 Tryd.underlying5 Tryd.underlying9 (Kd.C_below HR0.out HB.out); have hcvq27 := qA1 (P := Tryd.prog) (A := (some ad123)) (c := c0) Tryd.underlying30 Tryd.underlying5 Tryd.underlying9 (Kd.C_below HR0.out HB.out); (try clear A17))); try go_wp2_with (first | (go_at_call 45; refine qAk (n' := (l0.take 100).length) (by first | rfl | simp) ?_; (with_reducible refine (head_field.calls _ _ (l0.take 100) t120 _ ?side1 ?side2 ?side3 A4.out).mono ?_); (case side1 => exact ⟨Tabs.below hT.out (by repeat (first | (with_reducible first | exact HB.out | apply qAb | apply qAa | apply qAc) | exact HB.out))⟩); (case side2 => repeat (first | exact HR119.out | (with_reducible refine Kd.C_alloc ?_ _) | (with_reducible refine Kd.C_drewN ?_ _) | (with_reducible refine Kd.C_drew ?_))); (case side3 => exact HC119.out); rintro e w' ⟨rfl, ⟨nd, rfl⟩⟩; (try first | exact ⟨rfl, _, World.drewN_drewN _ _ _⟩ | exact ⟨rfl, _, Eq.trans (World.drewN_drewN _ _ _) (congrArg (World.drewN _) (Nat.add_assoc _ _ _))⟩); (try clear A4)) | (go_at_call 45; refine qAk (n' := ((l0.take 257).drop 157).length) (by first | rfl | simp) ?_; (with_reducible refine (head_field.calls _ _ ((l0.take 257).drop 157) t122 _ ?side1 ?side2 ?side3 A7.out).mono ?_); (case side1 => exact ⟨Tabs.below hT.out (by repeat (first | (with_reducible first | exact HB.out | apply qAb | apply qAa | apply qAc) | exact HB.out))⟩); (case side2 => repeat (first | exact HR121.out | (with_reducible refine Kd.C_alloc ?_ _) | (with_reducible refine Kd.C_drewN ?_ _) | (with_reducible refine Kd.C_drew ?_))); (case side3 => exact HC121.out); rintro e w' ⟨rfl, ⟨nd, rfl⟩⟩; (try first | exact ⟨rfl, _, World.drewN_drewN _ _ _⟩ | exact ⟨rfl, _, Eq.trans (World.drewN_drewN _ _ _) (congrArg (World.drewN _) (Nat.add_assoc _ _ _))⟩); have p123 : 0 ≤ (156 : Int) := (by omega); have q123 : 156 < (l0.length : Int) := of_decide_eq_true (by first | (with_reducible assumption) | assumption); obtain ⟨ad123, e123, hx123_0⟩ := Kd.at_int HR0.out 156 p123 q123; cases e123; (try simp only [show (156 : Int).toNat = 156 from rfl, Nat.reduceMul, Nat.reduceEqDiff, Go.Addr.add, ↓reduceIte] at hx123_0); have qi123 : (156 < l0.length) = True := eq_true (by omega); (try rw [show ((156 : Int)).toNat = 156 from rfl] at hx123_0); replace p123 := eq_true p123; replace q123 := eq_true q123; obtain ⟨i022, hi022, _, hsz22, _⟩ := info_parts info5; obtain ⟨A22, hcut22, hA22, hC22⟩ := qAl (P := Tryd.prog) (Value.int .u8) 0 30 5 .i64 .i64 Tryd.underlying30 hi022 hsz22 (some ad123) c0 l0 100 108 (by omega) (by first | omega | exact of_decide_eq_true (by first | (with_reducible assumption) | assumption)) (of_decide_eq_true (by first | (with_reducible assumption) | assumption)) HC0.out; have HR124 := Aside0.mk (Kd.C_of_reads (h1 := fun _ => rfl) (hA22 _ (Kd.reads_of_C HR0.out))); have HC124 := Aside0.mk hC22; clear hA22 hC22 hi022 hsz22; (try clear A7)) | (go_at_call 45; refine qAk (n' := ((l0.take 108).drop 100).length) (by first | rfl | simp) ?_; (with_reducible refine (head_field.calls _ _ ((l0.take 108).drop 100) t125 _ ?side1 ?side2 ?side3 A11.out).mono ?_); (case side1 => exact ⟨Tabs.below hT.out (by repeat (first | (with_reducible first | exact HB.out | apply qAb | apply qAa | apply qAc) | exact HB.out))⟩); (case side2 => repeat (first | exact HR124.out | (with_reducible refine Kd.C_alloc ?_ _) | (with_reducible refine Kd.C_drewN ?_ _) | (with_reducible refine Kd.C_drew ?_))); (case side3 => exact HC124.out); rintro e w' ⟨rfl, ⟨nd, rfl⟩⟩; (try first | exact ⟨rfl, _, World.drewN_drewN _ _ _⟩ | exact ⟨rfl, _, Eq.trans (World.drewN_drewN _ _ _) (congrArg (World.drewN _) (Nat.add_assoc _ _ _))⟩); (try clear A11)) | (go_at_call 46; (with_reducible refine (head_kind.calls (rd l0 156) t125 t126 _ A12.out).mono ?_); rintro e w' ⟨rfl, ⟨nd, rfl⟩⟩; (try first | exact ⟨rfl, _, World.drewN_drewN _ _ _⟩ | exact ⟨rfl, _, Eq.trans (World.drewN_drewN _ _ _) (congrArg (World.drewN _) (Nat.add_assoc _ _ _))⟩); obtain ⟨i023, hi023, _, hsz23, _⟩ := info_parts info5; obtain ⟨A23, hcut23, hA23, hC23⟩ := qAl (P := Tryd.prog) (Value.int .u8) 0 30 5 .i64 .i64 Tryd.underlying30 hi023 hsz23 (some ad123) c0 l0 124 136 (by omega) (by first | omega | exact of_decide_eq_true (by first | (with_reducible assumption) | assumption)) (of_decide_eq_true (by first | (with_reducible assumption) | assumption)) HC0.out; have HR127 := Aside0.mk (Kd.C_of_reads (h1 := fun _ => rfl) (hA23 _ (Kd.reads_of_C HR0.out))); have HC127 := Aside0.mk hC23; clear hA23 hC23 hi023 hsz23; (try clear A12)) | (go_at_call 45; refine qAk (n' := ((l0.take 136).drop 124).length) (by first | rfl | simp) ?_; (with_reducible refine (head_field.calls _ _ ((l0.take 136).drop 124) t128 _ ?side1 ?side2 ?side3 A15.out).mono ?_); (case side1 => exact ⟨Tabs.below hT.out (by repeat (first | (with_reducible first | exact HB.out | apply qAb | apply qAa | apply qAc) | exact HB.out))⟩); (case side2 => repeat (first | exact HR127.out | (with_reducible refine Kd.C_alloc ?_ _) | (with_reducible refine Kd.C_drewN ?_ _) | (with_reducible refine Kd.C_drew ?_))); (case side3 => exact HC127.out); rintro e w' ⟨rfl, ⟨nd, rfl⟩⟩; (try first | exact ⟨rfl, _, World.drewN_drewN _ _ _⟩ | exact ⟨rfl, _, Eq.trans (World.drewN_drewN _ _ _) (congrArg (World.drewN _) (Nat.add_assoc _ _ _))⟩); (try clear A15)) | (go_at_call 47; (with_reducible refine (head_OfOctal.calls k t128 t129 t130 _ A16.out).mono ?_); rintro e w' ⟨rfl, ⟨nd, rfl⟩⟩; (try first | exact ⟨rfl, _, World.drewN_drewN _ _ _⟩ | exact ⟨rfl, _, Eq.trans (World.drewN_drewN _ _ _) (congrArg (World.drewN _) (Nat.add_assoc _ _ _))⟩); (try clear A16)) | (go_at_call 48; (with_reducible refine (head_Lay.calls k t120 t126 t129 t122 t131 true _ ?side1 A17.out).mono ?_); (case side1 => exact ⟨Tabs.below hT.out (by repeat (first | (with_reducible first | exact HB.out | apply qAb | apply qAa | apply qAc) | exact HB.out))⟩); rintro e w24 ⟨v133, rfl, ho0, hb⟩; have n0_ := Aside0.mk (Kd.R_lower ho0 (qAm (by repeat (first | (with_reducible first | exact HB.out | apply qAb | apply qAa | apply qAc) | exact HB.out)))); have n1_ := Aside0.mk (qAe (by repeat (first | (with_reducible first | exact HB.out | apply qAb | apply qAa | apply qAc) | exact HB.out)) hb); clear HB; have HO134 := n0_; have HB := n1_; clear n0_ n1_; (try clear hb); (try clear hb2); (try clear hk); (try clear hi); (try clear ho0); have hcv25 := qBg (P := Tryd.prog) Tryd.underlying30 Tryd.underlying5 Tryd.underlying9 (Kd.own_of_R HO134.out); have hcv26 := Kd.C_string (P := Tryd.prog) (A := (some ad123)) (c := c0) Tryd.underlying30 Tryd.underlying5 Tryd.underlying9 (Kd.C_below HR0.out HB.out); have hcvq27 := qA1 (P := Tryd.prog) (A := (some ad123)) (c := c0) Tryd.underlying30 Tryd.underlying5 Tryd.underlying9 (Kd.C_below HR0.out HB.out); (try clear A17))))
            refine bodyPost_ret (qBk (rs := [.tmp 2, .tmp 3, .tmp 4, .tmp 5, .tmp 6]) rfl (by simp) (.tmp (.tmp (.tmp (.tmp (.tmp .nil)))))) rfl ?_
            exact ⟨by first | rfl | (simp [qAi, qAh] <;> rfl) | (simp [*, qAi, qAh] <;> rfl), by repeat (first | (with_reducible first | exact HB.out | apply qAb | apply qAa | apply qAc) | exact HB.out)⟩
           ·rw [if_neg c19] at H
            have c19b0 : ((strOfNums t131).toList == (strOfNums l0).toList) = false := beq_eq_false_iff_ne.mpr c19
            have c19b1 : ((strOfNums t131).toList != (strOfNums l0).toList) = true := bne_iff_ne.mpr c19
            simp only [Option.some.injEq, Prod.mk.injEq] at H
            obtain ⟨rfl, rfl, rfl, rfl, rfl⟩ := H
            obtain ⟨i028, hi028, _, hsz28, _⟩ := info_parts info5
            obtain ⟨hcut28, hA28, hC28⟩ := qBq (P := Tryd.prog) (Value.int .u8) 0 30 5 .i64 Tryd.underlying30 hi028 hsz28 A0 c0 l0 100 (by omega) (of_decide_eq_true (by first | (with_reducible assumption) | assumption)) HC0.out
            have HR119 := Aside0.mk (Kd.C_of_reads (h1 := fun _ => rfl) (hA28 _ (Kd.reads_of_C HR0.out)))
            have HC119 := Aside0.mk hC28
            clear hA28 hC28 hi028 hsz28
            obtain ⟨i029, hi029, _, hsz29, _⟩ := info_parts info5
            obtain ⟨A29, hcut29, hA29, hC29⟩ := qAl (P := Tryd.prog) (Value.int .u8) 0 30 5 .i64 .i64 Tryd.underlying30 hi029 hsz29 A0 c0 l0 157 257 (by omega) (by first | omega | exact of_decide_eq_true (by first | (with_reducible assumption) | assumption)) (of_decide_eq_true (by first | (with_reducible assumption) | assumption)) HC0.out
            have HR121 := Aside0.mk (Kd.C_of_reads (h1 := fun _ => rfl) (hA29 _ (Kd.reads_of_C HR0.out)))
            have HC121 := Aside0.mk hC29
            clear hA29 hC29 hi029 hsz29
            go_enter Tryd.func28, Tryd.ntmps28
            go_wp2_with (first | (go_at_call 45; (with_reducible refine (head_field.calls _ _ (l0.take 100) t120 _ ?side1 ?side2 ?side3 A4.out).mono ?_); (case side1 => exact ⟨Tabs.below hT.out (by repeat (first | (with_reducible first | exact HB.out | apply qAb | apply qAa | apply qAc) | exact HB.out))⟩); (case side2 => repeat (first | exact HR119.out | (with_reducible refine Kd.C_alloc ?_ _) | (with_reducible refine Kd.C_drewN ?_ _) | (with_reducible refine Kd.C_drew ?_))); (case side3 => exact HC119.out); rintro e w' ⟨rfl, ⟨nd, rfl⟩⟩; (try first | exact ⟨rfl, _, World.drewN_drewN _ _ _⟩ | exact ⟨rfl, _, Eq.trans (World.drewN_drewN _ _ _) (congrArg (World.drewN _) (Nat.add_assoc _ _ _))⟩)) | (go_at_call 45; (with_reducible refine (head_field.calls _ _ ((l0.take 257).drop 157) t122 _ ?side1 ?side2 ?side3 A7.out).mono ?_); (case side1 => exact ⟨Tabs.below hT.out (by repeat (first | (with_reducible first | exact HB.out | apply qAb | apply qAa | apply qAc) | exact HB.out))⟩); (case side2 => repeat (first | exact HR121.out | (with_reducible refine Kd.C_alloc ?_ _) | (with_reducible refine Kd.C_drewN ?_ _) | (with_reducible refine Kd.C_drew ?_))); (case side3 => exact HC121.out); rintro e w' ⟨rfl, ⟨nd, rfl⟩⟩; (try first | exact ⟨rfl, _, World.drewN_drewN _ _ _⟩ | exact ⟨rfl, _, Eq.trans (World.drewN_drewN _ _ _) (congrArg (World.drewN _) (Nat.add_assoc _ _ _))⟩); have p123 : 0 ≤ (156 : Int) := (by omega); have q123 : 156 < (l0.length : Int) := of_decide_eq_true (by first | (with_reducible assumption) | assumption); obtain ⟨ad123, e123, hx123_0⟩ := Kd.at_int HR0.out 156 p123 q123; cases e123; (try simp only [show (156 : Int).toNat = 156 from rfl, Nat.reduceMul, Nat.reduceEqDiff, Go.Addr.add, ↓reduceIte] at hx123_0); have qi123 : (156 < l0.length) = True := eq_true (by omega); (try rw [show ((156 : Int)).toNat = 156 from rfl] at hx123_0); replace p123 := eq_true p123; replace q123 := eq_true q123; obtain ⟨i030, hi030, _, hsz30, _⟩ := info_parts info5; obtain ⟨A30, hcut30, hA30, hC30⟩ := qAl (P := Tryd.prog) (Value.int .u8) 0 30 5 .i64 .i64 Tryd.underlying30 hi030 hsz30 (some ad123) c0 l0 100 108 (by omega) (by first | omega | exact of_decide_eq_true (by first | (with_reducible assumption) | assumption)) (of_decide_eq_true (by first | (with_reducible assumption) | assumption)) HC0.out; have HR124 := Aside0.mk (Kd.C_of_reads (h1 := fun _ => rfl) (hA30 _ (Kd.reads_of_C HR0.out))); have HC124 := Aside0.mk hC30; clear hA30 hC30 hi030 hsz30) | (go_at_call 45; (with_reducible refine (head_field.calls _ _ ((l0.take 108).drop 100) t125 _ ?side1 ?side2 ?side3 A11.out).mono ?_); (case side1 => exact ⟨Tabs.below hT.out (by repeat (first | (with_reducible first | exact HB.out | apply qAb | apply qAa | apply qAc) | exact HB.out))⟩); (case side2 => repeat (first | exact HR124.out | (with_reducible refine Kd.C_alloc ?_ _) | (with_reducible refine Kd.C_drewN ?_ _) | (with_reducible refine Kd.C_drew ?_))); (case side3 => exact HC124.out); rintro e w' ⟨rfl, ⟨nd, rfl⟩⟩; (try first | exact ⟨rfl, _, World.drewN_drewN _ _ _⟩ | exact ⟨rfl, _, Eq.trans (World.drewN_drewN _ _ _) (congrArg (World.drewN _) (Nat.add_assoc _ _ _))⟩)) | (go_at_call 46; (with_reducible refine (head_kind.calls (rd l0 156) t125 t126 _ A12.out).mono ?_); rintro e w' ⟨rfl, ⟨nd, rfl⟩⟩; (try first | exact ⟨rfl, _, World.drewN_drewN _ _ _⟩ | exact ⟨rfl, _, Eq.trans (World.drewN_drewN _ _ _) (congrArg (World.drewN _) (Nat.add_assoc _ _ _))⟩); obtain ⟨i031, hi031, _, hsz31, _⟩ := info_parts info5; obtain ⟨A31, hcut31, hA31, hC31⟩ := qAl (P := Tryd.prog) (Value.int .u8) 0 30 5 .i64 .i64 Tryd.underlying30 hi031 hsz31 (some ad123) c0 l0 124 136 (by omega) (by first | omega | exact of_decide_eq_true (by first | (with_reducible assumption) | assumption)) (of_decide_eq_true (by first | (with_reducible assumption) | assumption)) HC0.out; have HR127 := Aside0.mk (Kd.C_of_reads (h1 := fun _ => rfl) (hA31 _ (Kd.reads_of_C HR0.out))); have HC127 := Aside0.mk hC31; clear hA31 hC31 hi031 hsz31) | (go_at_call 45; (with_reducible refine (head_field.calls _ _ ((l0.take 136).drop 124) t128 _ ?side1 ?side2 ?side3 A15.out).mono ?_); (case side1 => exact ⟨Tabs.below hT.out (by repeat (first | (with_reducible first | exact HB.out | apply qAb | apply qAa | apply qAc) | exact HB.out))⟩); (case side2 => repeat (first | exact HR127.out | (with_reducible refine Kd.C_alloc ?_ _) | (with_reducible refine Kd.C_drewN ?_ _) | (with_reducible refine Kd.C_drew ?_))); (case side3 => exact HC127.out); rintro e w' ⟨rfl, ⟨nd, rfl⟩⟩; (try first | exact ⟨rfl, _, World.drewN_drewN _ _ _⟩ | exact ⟨rfl, _, Eq.trans (World.drewN_drewN _ _ _) (congrArg (World.drewN _) (Nat.add_assoc _ _ _))⟩)) | (go_at_call 47; (with_reducible refine (head_OfOctal.calls k t128 t129 t130 _ A16.out).mono ?_); rintro e w' ⟨rfl, ⟨nd, rfl⟩⟩; (try first | exact ⟨rfl, _, World.drewN_drewN _ _ _⟩ | exact ⟨rfl, _, Eq.trans (World.drewN_drewN _ _ _) (congrArg (World.drewN _) (Nat.add_assoc _ _ _))⟩)) | (go_at_call 48; (with_reducible refine (head_Lay.calls k t120 t126 t129 t122 t131 true _ ?side1 A17.out).mono ?_); (case side1 => exact ⟨Tabs.below hT.out (by repeat (first | (with_reducible first | exact HB.out | apply qAb | apply qAa | apply qAc) | exact HB.out))⟩); rintro e w32 ⟨v133, rfl, ho0, hb⟩; have n0_ := Aside0.mk (Kd.R_lower ho0 (qAm (by repeat (first | (with_reducible first | exact HB.out | apply qAb | apply qAa | apply qAc) | exact HB.out)))); have n1_ := Aside0.mk (qAe (by repeat (first | (with_reducible first | exact HB.out | apply qAb | apply qAa | apply qAc) | exact HB.out)) hb); clear HB; have HO134 := n0_; have HB := n1_; clear n0_ n1_; (try clear hb); (try clear hb2); (try clear hk); (try clear hi); (try clear ho0); have hcv33 := qBg (P := Tryd.prog) Tryd.underlying30 Tryd.underlying5 Tryd.underlying9 (Kd.own_of_R HO134.out); have hcv34 := Kd.C_string (P := Tryd.prog) (A := (some ad123)) (c := c0) Tryd.underlying30 Tryd.underlying5 Tryd.underlying9 (Kd.C_below HR0.out HB.out); have hcvq35 := qA1 (P := Tryd.prog) (A := (some ad123)) (c := c0) Tryd.underlying30 Tryd.underlying5 Tryd.underlying9 (Kd.C_below HR0.out HB.out)))
            repeat (go_quiet (first | (go_at_call 45; refine qAk (n' := (l0.take 100).length) (by first | rfl | simp) ?_; (with_reducible refine (head_field.calls _ _ (l0.take 100) t120 _ ?side1 ?side2 ?side3 A4.out).mono ?_); (case side1 => exact ⟨Tabs.below hT.out (by repeat (first | (with_reducible first | exact HB.out | apply qAb | apply qAa | apply qAc) | exact HB.out))⟩); (case side2 => repeat (first | exact HR119.out | (with_reducible refine Kd.C_alloc ?_ _) | (with_reducible refine Kd.C_drewN ?_ _) | (with_reducible refine Kd.C_drew ?_))); (case side3 => exact HC119.out); rintro e w' ⟨rfl, ⟨nd, rfl⟩⟩; (try first | exact ⟨rfl, _, World.drewN_drewN _ _ _⟩ | exact ⟨rfl, _, Eq.trans (World.drewN_drewN _ _ _) (congrArg (World.drewN _) (Nat.add_assoc _ _ _))⟩); (try clear A4)) | (go_at_call 45; refine qAk (n' := ((l0.take 257).drop 157).length) (by first | rfl | simp) ?_; (with_reducible refine (head_field.calls _ _ ((l0.take 257).drop 157) t122 _ ?side1 ?side2 ?side3 A7.out).mono ?_); (case side1 => exact ⟨Tabs.below hT.out (by repeat (first | (with_reducible first | exact HB.out | apply qAb | apply qAa | apply qAc) | exact HB.out))⟩); (case side2 => repeat (first | exact HR121.out | (with_reducible refine Kd.C_alloc ?_ _) | (with_reducible refine Kd.C_drewN ?_ _) | (with_reducible refine Kd.C_drew ?_))); (case side3 => exact HC121.out); rintro e w' ⟨rfl, ⟨nd, rfl⟩⟩; (try first | exact ⟨rfl, _, World.drewN_drewN _ _ _⟩ | exact ⟨rfl, _, Eq.trans (World.drewN_drewN _ _ _) (congrArg (World.drewN _) (Nat.add_assoc _ _ _))⟩); have p123 : 0 ≤ (156 : Int) := (by omega); have q123 : 156 < (l0.length : Int) := of_decide_eq_true (by first | (with_reducible assumption) | assumption); obtain ⟨ad123, e123, hx123_0⟩ := Kd.at_int HR0.out 156 p123 q123; cases e123; (try simp only [show (156 : Int).toNat = 156 from rfl, Nat.reduceMul, Nat.reduceEqDiff, Go.Addr.add, ↓reduceIte] at hx123_0); have qi123 : (156 < l0.length) = True := eq_true (by omega); (try rw [show ((156 : Int)).toNat = 156 from rfl] at hx123_0); replace p123 := eq_true p123; replace q123 := eq_true q123; obtain ⟨i030, hi030, _, hsz30, _⟩ := info_parts info5; obtain ⟨A30, hcut30, hA30, hC30⟩ := qAl (P := Tryd.prog) (Value.int .u8) 0 30 5 .i64 .i64 Tryd.underlying30 hi030 hsz30 (some ad123) c0 l0 100 108 (by omega) (by first | omega | exact of_decide_eq_true (by first | (with_reducible assumption) | assumption)) (of_decide_eq_true (by first | (with_reducible assumption) | assumption)) HC0.out; have HR124 := Aside0.mk (Kd.C_of_reads (h1 := fun _ => rfl) (hA30 _ (Kd.reads_of_C HR0.out))); have HC124 := Aside0.mk hC30; clear hA30 hC30 hi030 hsz30; (try clear A7)) | (go_at_call 45; refine qAk (n' := ((l0.take 108).drop 100).length) (by first | rfl | simp) ?_; (with_reducible refine (head_field.calls _ _ ((l0.take 108).drop 100) t125 _ ?side1 ?side2 ?side3 A11.out).mono ?_); (case side1 => exact ⟨Tabs.below hT.out (by repeat (first | (with_reducible first | exact HB.out | apply qAb | apply qAa | apply qAc) | exact HB.out))⟩); (case side2 => repeat (first | exact HR124.out | (with_reducible refine Kd.C_alloc ?_ _) | (with_reducible refine Kd.C_drewN ?_ _) | (with_reducible refine Kd.C_drew ?_))); (case side3 => exact HC124.out); rintro e w' ⟨rfl, ⟨nd, rfl⟩⟩; (try first | exact ⟨rfl, _, World.drewN_drewN _ _ _⟩ | exact ⟨rfl, _, Eq.trans (World.drewN_drewN _ _ _) (congrArg (World.drewN _) (Nat.add_assoc _ _ _))⟩); (try clear A11)) | (go_at_call 46; (with_reducible refine (head_kind.calls (rd l0 156) t125 t126 _ A12.out).mono ?_); rintro e w' ⟨rfl, ⟨nd, rfl⟩⟩; (try first | exact ⟨rfl, _, World.drewN_drewN _ _ _⟩ | exact ⟨rfl, _, Eq.trans (World.drewN_drewN _ _ _) (congrArg (World.drewN _) (Nat.add_assoc _ _ _))⟩); obtain ⟨i031, hi031, _, hsz31, _⟩ := info_parts info5; obtain ⟨A31, hcut31, hA31, hC31⟩ := qAl (P := Tryd.prog) (Value.int .u8) 0 30 5 .i64 .i64 Tryd.underlying30 hi031 hsz31 (some ad123) c0 l0 124 136 (by omega) (by first | omega | exact of_decide_eq_true (by first | (with_reducible assumption) | assumption)) (of_decide_eq_true (by first | (with_reducible assumption) | assumption)) HC0.out; have HR127 := Aside0.mk (Kd.C_of_reads (h1 := fun _ => rfl) (hA31 _ (Kd.reads_of_C HR0.out))); have HC127 := Aside0.mk hC31; clear hA31 hC31 hi031 hsz31; (try clear A12)) | (go_at_call 45; refine qAk (n' := ((l0.take 136).drop 124).length) (by first | rfl | simp) ?_; (with_reducible refine (head_field.calls _ _ ((l0.take 136).drop 124) t128 _ ?side1 ?side2 ?side3 A15.out).mono ?_); (case side1 => exact ⟨Tabs.below hT.out (by repeat (first | (with_reducible first | exact HB.out | apply qAb | apply qAa | apply qAc) | exact HB.out))⟩); (case side2 => repeat (first | exact HR127.out | (with_reducible refine Kd.C_alloc ?_ _) | (with_reducible refine Kd.C_drewN ?_ _) | (with_reducible refine Kd.C_drew ?_))); (case side3 => exact HC127.out); rintro e w' ⟨rfl, ⟨nd, rfl⟩⟩; (try first | exact ⟨rfl, _, World.drewN_drewN _ _ _⟩ | exact ⟨rfl, _, Eq.trans (World.drewN_drewN _ _ _) (congrArg (World.drewN _) (Nat.add_assoc _ _ _))⟩); (try clear A15)) | (go_at_call 47; (with_reducible refine (head_OfOctal.calls k t128 t129 t130 _ A16.out).mono ?_); rintro e w' ⟨rfl, ⟨nd, rfl⟩⟩; (try first | exact ⟨rfl, _, World.drewN_drewN _ _ _⟩ | exact ⟨rfl, _, Eq.trans (World.drewN_drewN _ _ _) (congrArg (World.drewN _) (Nat.add_assoc _ _ _))⟩); (try clear A16)) | (go_at_call 48; (with_reducible refine (head_Lay.calls k t120 t126 t129 t122 t131 true _ ?side1 A17.out).mono ?_); (case side1 => exact ⟨Tabs.below hT.out (by repeat (first | (with_reducible first | exact HB.out | apply qAb | apply qAa | apply qAc) | exact HB.out))⟩); rintro e w32 ⟨v133, rfl, ho0, hb⟩; have n0_ := Aside0.mk (Kd.R_lower ho0 (qAm (by repeat (first | (with_reducible first | exact HB.out | apply qAb | apply qAa | apply qAc) | exact HB.out)))); have n1_ := Aside0.mk (qAe (by repeat (first | (with_reducible first | exact HB.out | apply qAb | apply qAa | apply qAc) | exact HB.out)) hb); clear HB; have HO134 := n0_; have HB := n1_; clear n0_ n1_; (try clear hb); (try clear hb2); (try clear hk); (try clear hi); (try clear ho0); have hcv33 := qBg (P := Tryd.prog) Tryd.underlying30 Tryd.underlying5 Tryd.underlying9 (Kd.own_of_R HO134.out); have hcv34 := Kd.C_string (P := Tryd.prog) (A := (some ad123)) (c := c0) Tryd.underlying30 Tryd.underlying5 Tryd.underlying9 (Kd.C_below HR0.out HB.out); have hcvq35 := qA1 (P := Tryd.prog) (A := (some ad123)) (c := c0) Tryd.underlying30 Tryd.underlying5 Tryd.underlying9 (Kd.C_below HR0.out HB.out); (try clear A17))); try go_wp2_with (first | (go_at_call 45; refine qAk (n' := (l0.take 100).length) (by first | rfl | simp) ?_; (with_reducible refine (head_field.calls _ _ (l0.take 100) t120 _ ?side1 ?side2 ?side3 A4.out).mono ?_); (case side1 => exact ⟨Tabs.below hT.out (by repeat (first | (with_reducible first | exact HB.out | apply qAb | apply qAa | apply qAc) | exact HB.out))⟩); (case side2 => repeat (first | exact HR119.out | (with_reducible refine Kd.C_alloc ?_ _) | (with_reducible refine Kd.C_drewN ?_ _) | (with_reducible refine Kd.C_drew ?_))); (case side3 => exact HC119.out); rintro e w' ⟨rfl, ⟨nd, rfl⟩⟩; (try first | exact ⟨rfl, _, World.drewN_drewN _ _ _⟩ | exact ⟨rfl, _, Eq.trans (World.drewN_drewN _ _ _) (congrArg (World.drewN _) (Nat.add_assoc _ _ _))⟩); (try clear A4)) | (go_at_call 45; refine qAk (n' := ((l0.take 257).drop 157).length) (by first | rfl | simp) ?_; (with_reducible refine (head_field.calls _ _ ((l0.take 257).drop 157) t122 _ ?side1 ?side2 ?side3 A7.out).mono ?_); (case side1 => exact ⟨Tabs.below hT.out (by repeat (first | (with_reducible first | exact HB.out | apply qAb | apply qAa | apply qAc) | exact HB.out))⟩); (case side2 => repeat (first | exact HR121.out | (with_reducible refine Kd.C_alloc ?_ _) | (with_reducible refine Kd.C_drewN ?_ _) | (with_reducible refine Kd.C_drew ?_))); (case side3 => exact HC121.out); rintro e w' ⟨rfl, ⟨nd, rfl⟩⟩; (try first | exact ⟨rfl, _, World.drewN_drewN _ _ _⟩ | exact ⟨rfl, _, Eq.trans (World.drewN_drewN _ _ _) (congrArg (World.drewN _) (Nat.add_assoc _ _ _))⟩); have p123 : 0 ≤ (156 : Int) := (by omega); have q123 : 156 < (l0.length : Int) := of_decide_eq_true (by first | (with_reducible assumption) | assumption); obtain ⟨ad123, e123, hx123_0⟩ := Kd.at_int HR0.out 156 p123 q123; cases e123; (try simp only [show (156 : Int).toNat = 156 from rfl, Nat.reduceMul, Nat.reduceEqDiff, Go.Addr.add, ↓reduceIte] at hx123_0); have qi123 : (156 < l0.length) = True := eq_true (by omega); (try rw [show ((156 : Int)).toNat = 156 from rfl] at hx123_0); replace p123 := eq_true p123; replace q123 := eq_true q123; obtain ⟨i030, hi030, _, hsz30, _⟩ := info_parts info5; obtain ⟨A30, hcut30, hA30, hC30⟩ := qAl (P := Tryd.prog) (Value.int .u8) 0 30 5 .i64 .i64 Tryd.underlying30 hi030 hsz30 (some ad123) c0 l0 100 108 (by omega) (by first | omega | exact of_decide_eq_true (by first | (with_reducible assumption) | assumption)) (of_decide_eq_true (by first | (with_reducible assumption) | assumption)) HC0.out; have HR124 := Aside0.mk (Kd.C_of_reads (h1 := fun _ => rfl) (hA30 _ (Kd.reads_of_C HR0.out))); have HC124 := Aside0.mk hC30; clear hA30 hC30 hi030 hsz30; (try clear A7)) | (go_at_call 45; refine qAk (n' := ((l0.take 108).drop 100).length) (by first | rfl | simp) ?_; (with_reducible refine (head_field.calls _ _ ((l0.take 108).drop 100) t125 _ ?side1 ?side2 ?side3 A11.out).mono ?_); (case side1 => exact ⟨Tabs.below hT.out (by repeat (first | (with_reducible first | exact HB.out | apply qAb | apply qAa | apply qAc) | exact HB.out))⟩); (case side2 => repeat (first | exact HR124.out | (with_reducible refine Kd.C_alloc ?_ _) | (with_reducible refine Kd.C_drewN ?_ _) | (with_reducible refine Kd.C_drew ?_))); (case side3 => exact HC124.out); rintro e w' ⟨rfl, ⟨nd, rfl⟩⟩; (try first | exact ⟨rfl, _, World.drewN_drewN _ _ _⟩ | exact ⟨rfl, _, Eq.trans (World.drewN_drewN _ _ _) (congrArg (World.drewN _) (Nat.add_assoc _ _ _))⟩); (try clear A11)) | (go_at_call 46; (with_reducible refine (head_kind.calls (rd l0 156) t125 t126 _ A12.out).mono ?_); rintro e w' ⟨rfl, ⟨nd, rfl⟩⟩; (try first | exact ⟨rfl, _, World.drewN_drewN _ _ _⟩ | exact ⟨rfl, _, Eq.trans (World.drewN_drewN _ _ _) (congrArg (World.drewN _) (Nat.add_assoc _ _ _))⟩); obtain ⟨i031, hi031, _, hsz31, _⟩ := info_parts info5; obtain ⟨A31, hcut31, hA31, hC31⟩ := qAl (P := Tryd.prog) (Value.int .u8) 0 30 5 .i64 .i64 Tryd.underlying30 hi031 hsz31 (some ad123) c0 l0 124 136 (by omega) (by first | omega | exact of_decide_eq_true (by first | (with_reducible assumption) | assumption)) (of_decide_eq_true (by first | (with_reducible assumption) | assumption)) HC0.out; have HR127 := Aside0.mk (Kd.C_of_reads (h1 := fun _ => rfl) (hA31 _ (Kd.reads_of_C HR0.out))); have HC127 := Aside0.mk hC31; clear hA31 hC31 hi031 hsz31; (try clear A12)) | (go_at_call 45; refine qAk (n' := ((l0.take 136).drop 124).length) (by first | rfl | simp) ?_; (with_reducible refine (head_field.calls _ _ ((l0.take 136).drop 124) t128 _ ?side1 ?side2 ?side3 A15.out).mono ?_); (case side1 => exact ⟨Tabs.below hT.out (by repeat (first | (with_reducible first | exact HB.out | apply qAb | apply qAa | apply qAc) | exact HB.out))⟩); (case side2 => repeat (first | exact HR127.out | (with_reducible refine Kd.C_alloc ?_ _) | (with_reducible refine Kd.C_drewN ?_ _) | (with_reducible refine Kd.C_drew ?_))); (case side3 => exact HC127.out); rintro e w' ⟨rfl, ⟨nd, rfl⟩⟩; (try first | exact ⟨rfl, _, World.drewN_drewN _ _ _⟩ | exact ⟨rfl, _, Eq.trans (World.drewN_drewN _ _ _) (congrArg (World.drewN _) (Nat.add_assoc _ _ _))⟩); (try clear A15)) | (go_at_call 47; (with_reducible refine (head_OfOctal.calls k t128 t129 t130 _ A16.out).mono ?_); rintro e w' ⟨rfl, ⟨nd, rfl⟩⟩; (try first | exact ⟨rfl, _, World.drewN_drewN _ _ _⟩ | exact ⟨rfl, _, Eq.trans (World.drewN_drewN _ _ _) (congrArg (World.drewN _) (Nat.add_assoc _ _ _))⟩); (try clear A16)) | (go_at_call 48; (with_reducible refine (head_Lay.calls k t120 t126 t129 t122 t131 true _ ?side1 A17.out).mono ?_); (case side1 => exact ⟨Tabs.below hT.out (by repeat (first | (with_reducible first | exact HB.out | apply qAb | apply qAa | apply qAc) | exact HB.out))⟩); rintro e w32 ⟨v133, rfl, ho0, hb⟩; have n0_ := Aside0.mk (Kd.R_lower ho0 (qAm (by repeat (first | (with_reducible first | exact HB.out | apply qAb | apply qAa | apply qAc) | exact HB.out)))); have n1_ := Aside0.mk (qAe (by repeat (first | (with_reducible first | exact HB.out | apply qAb | apply qAa | apply qAc) | exact HB.out)) hb); clear HB; have HO134 := n0_; have HB := n1_; clear n0_ n1_; (try clear hb); (try clear hb2); (try clear hk); (try clear hi); (try clear ho0); have hcv33 := qBg (P := Tryd.prog) Tryd.underlying30 Tryd.underlying5 Tryd.underlying9 (Kd.own_of_R HO134.out); have hcv34 := Kd.C_string (P := Tryd.prog) (A := (some ad123)) (c := c0) Tryd.underlying30 Tryd.underlying5 Tryd.underlying9 (Kd.C_below HR0.out HB.out); have hcvq35 := qA1 (P := Tryd.prog) (A := (some ad123)) (c := c0) Tryd.underlying30 Tryd.underlying5 Tryd.underlying9 (Kd.C_below HR0.out HB.out); (try clear A17))))
            refine bodyPost_ret (qBk (rs := [.tmp 2, .tmp 3, .tmp 4, .tmp 5, .tmp 6]) rfl (by simp) (.tmp (.tmp (.tmp (.tmp (.tmp .nil)))))) rfl ?_
            exact ⟨by first | rfl | (simp [qAi, qAh] <;> rfl) | (simp [*, qAi, qAh] <;> rfl), by repeat (first | (with_reducible first | exact HB.out | apply qAb | apply qAa | apply qAc) | exact HB.out)⟩
          ·replace c18 := Bool.eq_false_iff.mpr c18
           subst c18
           have H1 : (some ((⟨#[]⟩ : ByteArray), 0, 0, (⟨#[]⟩ : ByteArray), false)) = some (r1, r2, r3, r4, r5) := by rw [if_neg (show ¬ (false = true) by decide)] at H; exact H
           clear H
           have H := H1
           clear H1
           simp only [Option.some.injEq, Prod.mk.injEq] at H
           obtain ⟨rfl, rfl, rfl, rfl, rfl⟩ := H
           obtain ⟨i036, hi036, _, hsz36, _⟩ := info_parts info5
           obtain ⟨hcut36, hA36, hC36⟩ := qBq (P := Tryd.prog) (Value.int .u8) 0 30 5 .i64 Tryd.underlying30 hi036 hsz36 A0 c0 l0 100 (by omega) (of_decide_eq_true (by first | (with_reducible assumption) | assumption)) HC0.out
           have HR119 := Aside0.mk (Kd.C_of_reads (h1 := fun _ => rfl) (hA36 _ (Kd.reads_of_C HR0.out)))
           have HC119 := Aside0.mk hC36
           clear hA36 hC36 hi036 hsz36
           obtain ⟨i037, hi037, _, hsz37, _⟩ := info_parts info5
           obtain ⟨A37, hcut37, hA37, hC37⟩ := qAl (P := Tryd.prog) (Value.int .u8) 0 30 5 .i64 .i64 Tryd.underlying30 hi037 hsz37 A0 c0 l0 157 257 (by omega) (by first | omega | exact of_decide_eq_true (by first | (with_reducible assumption) | assumption)) (of_decide_eq_true (by first | (with_reducible assumption) | assumption)) HC0.out
           have HR121 := Aside0.mk (Kd.C_of_reads (h1 := fun _ => rfl) (hA37 _ (Kd.reads_of_C HR0.out)))
           have HC121 := Aside0.mk hC37
           clear hA37 hC37 hi037 hsz37
           go_enter Tryd.func28, Tryd.ntmps28
           go_wp2_with (first | (go_at_call 45; (with_reducible refine (head_field.calls _ _ (l0.take 100) t120 _ ?side1 ?side2 ?side3 A4.out).mono ?_); (case side1 => exact ⟨Tabs.below hT.out (by repeat (first | (with_reducible first | exact HB.out | apply qAb | apply qAa | apply qAc) | exact HB.out))⟩); (case side2 => repeat (first | exact HR119.out | (with_reducible refine Kd.C_alloc ?_ _) | (with_reducible refine Kd.C_drewN ?_ _) | (with_reducible refine Kd.C_drew ?_))); (case side3 => exact HC119.out); rintro e w' ⟨rfl, ⟨nd, rfl⟩⟩; (try first | exact ⟨rfl, _, World.drewN_drewN _ _ _⟩ | exact ⟨rfl, _, Eq.trans (World.drewN_drewN _ _ _) (congrArg (World.drewN _) (Nat.add_assoc _ _ _))⟩)) | (go_at_call 45; (with_reducible refine (head_field.calls _ _ ((l0.take 257).drop 157) t122 _ ?side1 ?side2 ?side3 A7.out).mono ?_); (case side1 => exact ⟨Tabs.below hT.out (by repeat (first | (with_reducible first | exact HB.out | apply qAb | apply qAa | apply qAc) | exact HB.out))⟩); (case side2 => repeat (first | exact HR121.out | (with_reducible refine Kd.C_alloc ?_ _) | (with_reducible refine Kd.C_drewN ?_ _) | (with_reducible refine Kd.C_drew ?_))); (case side3 => exact HC121.out); rintro e w' ⟨rfl, ⟨nd, rfl⟩⟩; (try first | exact ⟨rfl, _, World.drewN_drewN _ _ _⟩ | exact ⟨rfl, _, Eq.trans (World.drewN_drewN _ _ _) (congrArg (World.drewN _) (Nat.add_assoc _ _ _))⟩); have p123 : 0 ≤ (156 : Int) := (by omega); have q123 : 156 < (l0.length : Int) := of_decide_eq_true (by first | (with_reducible assumption) | assumption); obtain ⟨ad123, e123, hx123_0⟩ := Kd.at_int HR0.out 156 p123 q123; cases e123; (try simp only [show (156 : Int).toNat = 156 from rfl, Nat.reduceMul, Nat.reduceEqDiff, Go.Addr.add, ↓reduceIte] at hx123_0); have qi123 : (156 < l0.length) = True := eq_true (by omega); (try rw [show ((156 : Int)).toNat = 156 from rfl] at hx123_0); replace p123 := eq_true p123; replace q123 := eq_true q123; obtain ⟨i038, hi038, _, hsz38, _⟩ := info_parts info5; obtain ⟨A38, hcut38, hA38, hC38⟩ := qAl (P := Tryd.prog) (Value.int .u8) 0 30 5 .i64 .i64 Tryd.underlying30 hi038 hsz38 (some ad123) c0 l0 100 108 (by omega) (by first | omega | exact of_decide_eq_true (by first | (with_reducible assumption) | assumption)) (of_decide_eq_true (by first | (with_reducible assumption) | assumption)) HC0.out; have HR124 := Aside0.mk (Kd.C_of_reads (h1 := fun _ => rfl) (hA38 _ (Kd.reads_of_C HR0.out))); have HC124 := Aside0.mk hC38; clear hA38 hC38 hi038 hsz38) | (go_at_call 45; (with_reducible refine (head_field.calls _ _ ((l0.take 108).drop 100) t125 _ ?side1 ?side2 ?side3 A11.out).mono ?_); (case side1 => exact ⟨Tabs.below hT.out (by repeat (first | (with_reducible first | exact HB.out | apply qAb | apply qAa | apply qAc) | exact HB.out))⟩); (case side2 => repeat (first | exact HR124.out | (with_reducible refine Kd.C_alloc ?_ _) | (with_reducible refine Kd.C_drewN ?_ _) | (with_reducible refine Kd.C_drew ?_))); (case side3 => exact HC124.out); rintro e w' ⟨rfl, ⟨nd, rfl⟩⟩; (try first | exact ⟨rfl, _, World.drewN_drewN _ _ _⟩ | exact ⟨rfl, _, Eq.trans (World.drewN_drewN _ _ _) (congrArg (World.drewN _) (Nat.add_assoc _ _ _))⟩)) | (go_at_call 46; (with_reducible refine (head_kind.calls (rd l0 156) t125 t126 _ A12.out).mono ?_); rintro e w' ⟨rfl, ⟨nd, rfl⟩⟩; (try first | exact ⟨rfl, _, World.drewN_drewN _ _ _⟩ | exact ⟨rfl, _, Eq.trans (World.drewN_drewN _ _ _) (congrArg (World.drewN _) (Nat.add_assoc _ _ _))⟩); obtain ⟨i039, hi039, _, hsz39, _⟩ := info_parts info5; obtain ⟨A39, hcut39, hA39, hC39⟩ := qAl (P := Tryd.prog) (Value.int .u8) 0 30 5 .i64 .i64 Tryd.underlying30 hi039 hsz39 (some ad123) c0 l0 124 136 (by omega) (by first | omega | exact of_decide_eq_true (by first | (with_reducible assumption) | assumption)) (of_decide_eq_true (by first | (with_reducible assumption) | assumption)) HC0.out; have HR127 := Aside0.mk (Kd.C_of_reads (h1 := fun _ => rfl) (hA39 _ (Kd.reads_of_C HR0.out))); have HC127 := Aside0.mk hC39; clear hA39 hC39 hi039 hsz39) | (go_at_call 45; (with_reducible refine (head_field.calls _ _ ((l0.take 136).drop 124) t128 _ ?side1 ?side2 ?side3 A15.out).mono ?_); (case side1 => exact ⟨Tabs.below hT.out (by repeat (first | (with_reducible first | exact HB.out | apply qAb | apply qAa | apply qAc) | exact HB.out))⟩); (case side2 => repeat (first | exact HR127.out | (with_reducible refine Kd.C_alloc ?_ _) | (with_reducible refine Kd.C_drewN ?_ _) | (with_reducible refine Kd.C_drew ?_))); (case side3 => exact HC127.out); rintro e w' ⟨rfl, ⟨nd, rfl⟩⟩; (try first | exact ⟨rfl, _, World.drewN_drewN _ _ _⟩ | exact ⟨rfl, _, Eq.trans (World.drewN_drewN _ _ _) (congrArg (World.drewN _) (Nat.add_assoc _ _ _))⟩)) | (go_at_call 47; (with_reducible refine (head_OfOctal.calls k t128 t129 t130 _ A16.out).mono ?_); rintro e w' ⟨rfl, ⟨nd, rfl⟩⟩; (try first | exact ⟨rfl, _, World.drewN_drewN _ _ _⟩ | exact ⟨rfl, _, Eq.trans (World.drewN_drewN _ _ _) (congrArg (World.drewN _) (Nat.add_assoc _ _ _))⟩)) | (go_at_call 48; (with_reducible refine (head_Lay.calls k t120 t126 t129 t122 t131 false _ ?side1 A17.out).mono ?_); (case side1 => exact ⟨Tabs.below hT.out (by repeat (first | (with_reducible first | exact HB.out | apply qAb | apply qAa | apply qAc) | exact HB.out))⟩); rintro e w40 ⟨v133, rfl, ho0, hb⟩; have n0_ := Aside0.mk (Kd.R_lower ho0 (qAm (by repeat (first | (with_reducible first | exact HB.out | apply qAb | apply qAa | apply qAc) | exact HB.out)))); have n1_ := Aside0.mk (qAe (by repeat (first | (with_reducible first | exact HB.out | apply qAb | apply qAa | apply qAc) | exact HB.out)) hb); clear HB; have HO134 := n0_; have HB := n1_; clear n0_ n1_; (try clear hb); (try clear hb2); (try clear hk); (try clear hi); (try clear ho0)))
           repeat (go_quiet (first | (go_at_call 45; refine qAk (n' := (l0.take 100).length) (by first | rfl | simp) ?_; (with_reducible refine (head_field.calls _ _ (l0.take 100) t120 _ ?side1 ?side2 ?side3 A4.out).mono ?_); (case side1 => exact ⟨Tabs.below hT.out (by repeat (first | (with_reducible first | exact HB.out | apply qAb | apply qAa | apply qAc) | exact HB.out))⟩); (case side2 => repeat (first | exact HR119.out | (with_reducible refine Kd.C_alloc ?_ _) | (with_reducible refine Kd.C_drewN ?_ _) | (with_reducible refine Kd.C_drew ?_))); (case side3 => exact HC119.out); rintro e w' ⟨rfl, ⟨nd, rfl⟩⟩; (try first | exact ⟨rfl, _, World.drewN_drewN _ _ _⟩ | exact ⟨rfl, _, Eq.trans (World.drewN_drewN _ _ _) (congrArg (World.drewN _) (Nat.add_assoc _ _ _))⟩); (try clear A4)) | (go_at_call 45; refine qAk (n' := ((l0.take 257).drop 157).length) (by first | rfl | simp) ?_; (with_reducible refine (head_field.calls _ _ ((l0.take 257).drop 157) t122 _ ?side1 ?side2 ?side3 A7.out).mono ?_); (case side1 => exact ⟨Tabs.below hT.out (by repeat (first | (with_reducible first | exact HB.out | apply qAb | apply qAa | apply qAc) | exact HB.out))⟩); (case side2 => repeat (first | exact HR121.out | (with_reducible refine Kd.C_alloc ?_ _) | (with_reducible refine Kd.C_drewN ?_ _) | (with_reducible refine Kd.C_drew ?_))); (case side3 => exact HC121.out); rintro e w' ⟨rfl, ⟨nd, rfl⟩⟩; (try first | exact ⟨rfl, _, World.drewN_drewN _ _ _⟩ | exact ⟨rfl, _, Eq.trans (World.drewN_drewN _ _ _) (congrArg (World.drewN _) (Nat.add_assoc _ _ _))⟩); have p123 : 0 ≤ (156 : Int) := (by omega); have q123 : 156 < (l0.length : Int) := of_decide_eq_true (by first | (with_reducible assumption) | assumption); obtain ⟨ad123, e123, hx123_0⟩ := Kd.at_int HR0.out 156 p123 q123; cases e123; (try simp only [show (156 : Int).toNat = 156 from rfl, Nat.reduceMul, Nat.reduceEqDiff, Go.Addr.add, ↓reduceIte] at hx123_0); have qi123 : (156 < l0.length) = True := eq_true (by omega); (try rw [show ((156 : Int)).toNat = 156 from rfl] at hx123_0); replace p123 := eq_true p123; replace q123 := eq_true q123; obtain ⟨i038, hi038, _, hsz38, _⟩ := info_parts info5; obtain ⟨A38, hcut38, hA38, hC38⟩ := qAl (P := Tryd.prog) (Value.int .u8) 0 30 5 .i64 .i64 Tryd.underlying30 hi038 hsz38 (some ad123) c0 l0 100 108 (by omega) (by first | omega | exact of_decide_eq_true (by first | (with_reducible assumption) | assumption)) (of_decide_eq_true (by first | (with_reducible assumption) | assumption)) HC0.out; have HR124 := Aside0.mk (Kd.C_of_reads (h1 := fun _ => rfl) (hA38 _ (Kd.reads_of_C HR0.out))); have HC124 := Aside0.mk hC38; clear hA38 hC38 hi038 hsz38; (try clear A7)) | (go_at_call 45; refine qAk (n' := ((l0.take 108).drop 100).length) (by first | rfl | simp) ?_; (with_reducible refine (head_field.calls _ _ ((l0.take 108).drop 100) t125 _ ?side1 ?side2 ?side3 A11.out).mono ?_); (case side1 => exact ⟨Tabs.below hT.out (by repeat (first | (with_reducible first | exact HB.out | apply qAb | apply qAa | apply qAc) | exact HB.out))⟩); (case side2 => repeat (first | exact HR124.out | (with_reducible refine Kd.C_alloc ?_ _) | (with_reducible refine Kd.C_drewN ?_ _) | (with_reducible refine Kd.C_drew ?_))); (case side3 => exact HC124.out); rintro e w' ⟨rfl, ⟨nd, rfl⟩⟩; (try first | exact ⟨rfl, _, World.drewN_drewN _ _ _⟩ | exact ⟨rfl, _, Eq.trans (World.drewN_drewN _ _ _) (congrArg (World.drewN _) (Nat.add_assoc _ _ _))⟩); (try clear A11)) | (go_at_call 46; (with_reducible refine (head_kind.calls (rd l0 156) t125 t126 _ A12.out).mono ?_); rintro e w' ⟨rfl, ⟨nd, rfl⟩⟩; (try first | exact ⟨rfl, _, World.drewN_drewN _ _ _⟩ | exact ⟨rfl, _, Eq.trans (World.drewN_drewN _ _ _) (congrArg (World.drewN _) (Nat.add_assoc _ _ _))⟩); obtain ⟨i039, hi039, _, hsz39, _⟩ := info_parts info5; obtain ⟨A39, hcut39, hA39, hC39⟩ := qAl (P := Tryd.prog) (Value.int .u8) 0 30 5 .i64 .i64 Tryd.underlying30 hi039 hsz39 (some ad123) c0 l0 124 136 (by omega) (by first | omega | exact of_decide_eq_true (by first | (with_reducible assumption) | assumption)) (of_decide_eq_true (by first | (with_reducible assumption) | assumption)) HC0.out; have HR127 := Aside0.mk (Kd.C_of_reads (h1 := fun _ => rfl) (hA39 _ (Kd.reads_of_C HR0.out))); have HC127 := Aside0.mk hC39; clear hA39 hC39 hi039 hsz39; (try clear A12)) | (go_at_call 45; refine qAk (n' := ((l0.take 136).drop 124).length) (by first | rfl | simp) ?_; (with_reducible refine (head_field.calls _ _ ((l0.take 136).drop 124) t128 _ ?side1 ?side2 ?side3 A15.out).mono ?_); (case side1 => exact ⟨Tabs.below hT.out (by repeat (first | (with_reducible first | exact HB.out | apply qAb | apply qAa | apply qAc) | exact HB.out))⟩); (case side2 => repeat (first | exact HR127.out | (with_reducible refine Kd.C_alloc ?_ _) | (with_reducible refine Kd.C_drewN ?_ _) | (with_reducible refine Kd.C_drew ?_))); (case side3 => exact HC127.out); rintro e w' ⟨rfl, ⟨nd, rfl⟩⟩; (try first | exact ⟨rfl, _, World.drewN_drewN _ _ _⟩ | exact ⟨rfl, _, Eq.trans (World.drewN_drewN _ _ _) (congrArg (World.drewN _) (Nat.add_assoc _ _ _))⟩); (try clear A15)) | (go_at_call 47; (with_reducible refine (head_OfOctal.calls k t128 t129 t130 _ A16.out).mono ?_); rintro e w' ⟨rfl, ⟨nd, rfl⟩⟩; (try first | exact ⟨rfl, _, World.drewN_drewN _ _ _⟩ | exact ⟨rfl, _, Eq.trans (World.drewN_drewN _ _ _) (congrArg (World.drewN _) (Nat.add_assoc _ _ _))⟩); (try clear A16)) | (go_at_call 48; (with_reducible refine (head_Lay.calls k t120 t126 t129 t122 t131 false _ ?side1 A17.out).mono ?_); (case side1 => exact ⟨Tabs.below hT.out (by repeat (first | (with_reducible first | exact HB.out | apply qAb | apply qAa | apply qAc) | exact HB.out))⟩); rintro e w40 ⟨v133, rfl, ho0, hb⟩; have n0_ := Aside0.mk (Kd.R_lower ho0 (qAm (by repeat (first | (with_reducible first | exact HB.out | apply qAb | apply qAa | apply qAc) | exact HB.out)))); have n1_ := Aside0.mk (qAe (by repeat (first | (with_reducible first | exact HB.out | apply qAb | apply qAa | apply qAc) | exact HB.out)) hb); clear HB; have HO134 := n0_; have HB := n1_; clear n0_ n1_; (try clear hb); (try clear hb2); (try clear hk); (try clear hi); (try clear ho0); (try clear A17))); try go_wp2_with (first | (go_at_call 45; refine qAk (n' := (l0.take 100).length) (by first | rfl | simp) ?_; (with_reducible refine (head_field.calls _ _ (l0.take 100) t120 _ ?side1 ?side2 ?side3 A4.out).mono ?_); (case side1 => exact ⟨Tabs.below hT.out (by repeat (first | (with_reducible first | exact HB.out | apply qAb | apply qAa | apply qAc) | exact HB.out))⟩); (case side2 => repeat (first | exact HR119.out | (with_reducible refine Kd.C_alloc ?_ _) | (with_reducible refine Kd.C_drewN ?_ _) | (with_reducible refine Kd.C_drew ?_))); (case side3 => exact HC119.out); rintro e w' ⟨rfl, ⟨nd, rfl⟩⟩; (try first | exact ⟨rfl, _, World.drewN_drewN _ _ _⟩ | exact ⟨rfl, _, Eq.trans (World.drewN_drewN _ _ _) (congrArg (World.drewN _) (Nat.add_assoc _ _ _))⟩); (try clear A4)) | (go_at_call 45; refine qAk (n' := ((l0.take 257).drop 157).length) (by first | rfl | simp) ?_; (with_reducible refine (head_field.calls _ _ ((l0.take 257).drop 157) t122 _ ?side1 ?side2 ?side3 A7.out).mono ?_); (case side1 => exact ⟨Tabs.below hT.out (by repeat (first | (with_reducible first | exact HB.out | apply qAb | apply qAa | apply qAc) | exact HB.out))⟩); (case side2 => repeat (first | exact HR121.out | (with_reducible refine Kd.C_alloc ?_ _) | (with_reducible refine Kd.C_drewN ?_ _) | (with_reducible refine Kd.C_drew ?_))); (case side3 => exact HC121.out); rintro e w' ⟨rfl, ⟨nd, rfl⟩⟩; (try first | exact ⟨rfl, _, World.drewN_drewN _ _ _⟩ | exact ⟨rfl, _, Eq.trans (World.drewN_drewN _ _ _) (congrArg (World.drewN _) (Nat.add_assoc _ _ _))⟩); have p123 : 0 ≤ (156 : Int) := (by omega); have q123 : 156 < (l0.length : Int) := of_decide_eq_true (by first | (with_reducible assumption) | assumption); obtain ⟨ad123, e123, hx123_0⟩ := Kd.at_int HR0.out 156 p123 q123; cases e123; (try simp only [show (156 : Int).toNat = 156 from rfl, Nat.reduceMul, Nat.reduceEqDiff, Go.Addr.add, ↓reduceIte] at hx123_0); have qi123 : (156 < l0.length) = True := eq_true (by omega); (try rw [show ((156 : Int)).toNat = 156 from rfl] at hx123_0); replace p123 := eq_true p123; replace q123 := eq_true q123; obtain ⟨i038, hi038, _, hsz38, _⟩ := info_parts info5; obtain ⟨A38, hcut38, hA38, hC38⟩ := qAl (P := Tryd.prog) (Value.int .u8) 0 30 5 .i64 .i64 Tryd.underlying30 hi038 hsz38 (some ad123) c0 l0 100 108 (by omega) (by first | omega | exact of_decide_eq_true (by first | (with_reducible assumption) | assumption)) (of_decide_eq_true (by first | (with_reducible assumption) | assumption)) HC0.out; have HR124 := Aside0.mk (Kd.C_of_reads (h1 := fun _ => rfl) (hA38 _ (Kd.reads_of_C HR0.out))); have HC124 := Aside0.mk hC38; clear hA38 hC38 hi038 hsz38; (try clear A7)) | (go_at_call 45; refine qAk (n' := ((l0.take 108).drop 100).length) (by first | rfl | simp) ?_; (with_reducible refine (head_field.calls _ _ ((l0.take 108).drop 100) t125 _ ?side1 ?side2 ?side3 A11.out).mono ?_); (case side1 => exact ⟨Tabs.below hT.out (by repeat (first | (with_reducible first | exact HB.out | apply qAb | apply qAa | apply qAc) | exact HB.out))⟩); (case side2 => repeat (first | exact HR124.out | (with_reducible refine Kd.C_alloc ?_ _) | (with_reducible refine Kd.C_drewN ?_ _) | (with_reducible refine Kd.C_drew ?_))); (case side3 => exact HC124.out); rintro e w' ⟨rfl, ⟨nd, rfl⟩⟩; (try first | exact ⟨rfl, _, World.drewN_drewN _ _ _⟩ | exact ⟨rfl, _, Eq.trans (World.drewN_drewN _ _ _) (congrArg (World.drewN _) (Nat.add_assoc _ _ _))⟩); (try clear A11)) | (go_at_call 46; (with_reducible refine (head_kind.calls (rd l0 156) t125 t126 _ A12.out).mono ?_); rintro e w' ⟨rfl, ⟨nd, rfl⟩⟩; (try first | exact ⟨rfl, _, World.drewN_drewN _ _ _⟩ | exact ⟨rfl, _, Eq.trans (World.drewN_drewN _ _ _) (congrArg (World.drewN _) (Nat.add_assoc _ _ _))⟩); obtain ⟨i039, hi039, _, hsz39, _⟩ := info_parts info5; obtain ⟨A39, hcut39, hA39, hC39⟩ := qAl (P := Tryd.prog) (Value.int .u8) 0 30 5 .i64 .i64 Tryd.underlying30 hi039 hsz39 (some ad123) c0 l0 124 136 (by omega) (by first | omega | exact of_decide_eq_true (by first | (with_reducible assumption) | assumption)) (of_decide_eq_true (by first | (with_reducible assumption) | assumption)) HC0.out; have HR127 := Aside0.mk (Kd.C_of_reads (h1 := fun _ => rfl) (hA39 _ (Kd.reads_of_C HR0.out))); have HC127 := Aside0.mk hC39; clear hA39 hC39 hi039 hsz39; (try clear A12)) | (go_at_call 45; refine qAk (n' := ((l0.take 136).drop 124).length) (by first | rfl | simp) ?_; (with_reducible refine (head_field.calls _ _ ((l0.take 136).drop 124) t128 _ ?side1 ?side2 ?side3 A15.out).mono ?_); (case side1 => exact ⟨Tabs.below hT.out (by repeat (first | (with_reducible first | exact HB.out | apply qAb | apply qAa | apply qAc) | exact HB.out))⟩); (case side2 => repeat (first | exact HR127.out | (with_reducible refine Kd.C_alloc ?_ _) | (with_reducible refine Kd.C_drewN ?_ _) | (with_reducible refine Kd.C_drew ?_))); (case side3 => exact HC127.out); rintro e w' ⟨rfl, ⟨nd, rfl⟩⟩; (try first | exact ⟨rfl, _, World.drewN_drewN _ _ _⟩ | exact ⟨rfl, _, Eq.trans (World.drewN_drewN _ _ _) (congrArg (World.drewN _) (Nat.add_assoc _ _ _))⟩); (try clear A15)) | (go_at_call 47; (with_reducible refine (head_OfOctal.calls k t128 t129 t130 _ A16.out).mono ?_); rintro e w' ⟨rfl, ⟨nd, rfl⟩⟩; (try first | exact ⟨rfl, _, World.drewN_drewN _ _ _⟩ | exact ⟨rfl, _, Eq.trans (World.drewN_drewN _ _ _) (congrArg (World.drewN _) (Nat.add_assoc _ _ _))⟩); (try clear A16)) | (go_at_call 48; (with_reducible refine (head_Lay.calls k t120 t126 t129 t122 t131 false _ ?side1 A17.out).mono ?_); (case side1 => exact ⟨Tabs.below hT.out (by repeat (first | (with_reducible first | exact HB.out | apply qAb | apply qAa | apply qAc) | exact HB.out))⟩); rintro e w40 ⟨v133, rfl, ho0, hb⟩; have n0_ := Aside0.mk (Kd.R_lower ho0 (qAm (by repeat (first | (with_reducible first | exact HB.out | apply qAb | apply qAa | apply qAc) | exact HB.out)))); have n1_ := Aside0.mk (qAe (by repeat (first | (with_reducible first | exact HB.out | apply qAb | apply qAa | apply qAc) | exact HB.out)) hb); clear HB; have HO134 := n0_; have HB := n1_; clear n0_ n1_; (try clear hb); (try clear hb2); (try clear hk); (try clear hi); (try clear ho0); (try clear A17))))
           refine bodyPost_ret (qBk (rs := [.tmp 2, .tmp 3, .tmp 4, .tmp 5, .tmp 6]) rfl (by simp) (.tmp (.tmp (.tmp (.tmp (.tmp .nil)))))) rfl ?_
           exact ⟨by first | rfl | (simp [qAi, qAh] <;> rfl) | (simp [*, qAi, qAh] <;> rfl), by repeat (first | (with_reducible first | exact HB.out | apply qAb | apply qAa | apply qAc) | exact HB.out)⟩
         ·rw [if_neg c14] at H
          exact absurd H (by simp)
        ·rw [if_neg c13] at H
         exact absurd H (by simp)
       ·rw [if_neg c10] at H
        exact absurd H (by simp)
      ·rw [if_neg c9] at H
       exact absurd H (by simp)
     ·rw [if_neg c8] at H
      exact absurd H (by simp)
    ·rw [if_neg c6] at H
     exact absurd H (by simp)
   ·rw [if_neg c5] at H
    exact absurd H (by simp)
  ·rw [if_neg c3] at H
   exact absurd H (by simp)
 ·rw [if_neg c2] at H
  have c2b0 : ((l0.length : Int) == 512) = false := beq_eq_false_iff_ne.mpr c2
  have c2b1 : ((l0.length : Int) != 512) = true := bne_iff_ne.mpr c2
  simp only [Option.some.injEq, Prod.mk.injEq] at H
  obtain ⟨rfl, rfl, rfl, rfl, rfl⟩ := H
  go_enter Tryd.func28, Tryd.ntmps28
  go_wp2
  repeat (go_quiet (fail); try go_wp2)
  refine bodyPost_ret (qBk (rs := [.tmp 2, .tmp 3, .tmp 4, .tmp 5, .tmp 6]) rfl (by simp) (.tmp (.tmp (.tmp (.tmp (.tmp .nil)))))) rfl ?_
  exact ⟨by first | rfl | (simp [qAi, qAh] <;> rfl) | (simp [*, qAi, qAh] <;> rfl), by repeat (first | (with_reducible first | exact HB.out | apply qAb | apply qAa | apply qAc) | exact HB.out)⟩
end Go.Proofs.YtdijnmcfpbceaaaDoor.P

namespace Go.Proofs.YtdijnmcfpbceaaaDoor.X
open Go.RowKit Go.Proofs.YtdijnmcfpbceaaaDoorW.PrintWords Go.Proofs.YtdijnmcfpbceaaaDoor.P
set_option linter.unusedVariables false
set_option linter.unusedSimpArgs false
def fieldR (l : List Int) : ByteArray := strOfNums (l.takeWhile (· != 0))
theorem qC0 (l : List Int) (h : Bytes l) (hn : l.length < 4294967281) : head_field.f l = some (fieldR l) := by
  unfold head_field.f strings_Cut.f
  have e : (strOfNums l).size = l.length := by rw [qBw, qBp, List.length_map]
  rw [if_pos (by omega)]
  simp only [Option.bind_some]
  rw [qGi]
  unfold fieldR
  rw [qBw, qBw, ← qD9 l h]
def kindR (c : Int) (m : ByteArray) : Int := if c = 53 then 1 else if c = 50 then 4 else if c = 120 then 5 else if m.toList = [48, 48, 48, 48, 55, 53, 53] then 3 else 2
theorem qHp (c : Int) (m : ByteArray) : head_kind.f c m = some (kindR c m) := by
  unfold head_kind.f kindR
  split
  · rfl
  split
  · rfl
  split
  · rfl
  split <;> rfl
def readN (b : List Int) : ByteArray := fieldR (b.take 100)
def readL (b : List Int) : ByteArray := fieldR ((b.take 257).drop 157)
def readK (b : List Int) : Int := kindR (rd b 156) (fieldR ((b.take 108).drop 100))
def readS (b : List Int) : Int := (ofOctR (fieldR ((b.take 136).drop 124))).1
def Told (b : List Int) : Prop := b.length = 512 ∧ layR (readN b) (readK b) (readS b) (readL b) = (b, true)
instance (b : List Int) : Decidable (Told b) := by unfold Told; infer_instance
def readR (b : List Int) : ByteArray × Int × Int × ByteArray × Bool := if Told b then (readN b, readK b, readS b, readL b, true) else (⟨#[]⟩, 0, 0, ⟨#[]⟩, false)
theorem qDp (a0 : ByteArray) (a1 a2 : Int) (a3 : ByteArray) : Bytes (layR a0 a1 a2 a3).1 := by
  unfold layR
  split
  · rename_i h
    exact qFm _ _ _ _ h.1.2.1 h.1.2.2.2.1
  · intro x hx; cases hx
theorem qEh (s : ByteArray) : 0 ≤ (ofOctR s).1 ∧ (ofOctR s).1 < 9223372036854775808 := by
  unfold ofOctR
  split
  · rename_i h
    have g : ∀ (l : List UInt8) (n x : Nat) (m : Nat), octV l x = some n → x < 8 ^ m → n < 8 ^ (m + l.length) := by
      intro l
      induction l with
      | nil => intro n x m h hx; simp only [octV, Option.some.injEq] at h; subst h; exact hx
      | cons c l ih =>
        intro n x m h hx
        rw [octV] at h
        split at h
        · rename_i hc
          have := ih n _ (m + 1) h (by rw [Nat.pow_succ]; omega)
          rw [List.length_cons]
          rw [show m + 1 + l.length = m + (l.length + 1) by omega] at this
          exact this
        · cases h
    cases e : octV s.data.toList 0 with
    | none => simp
    | some n =>
      have h1 := g _ _ 0 0 e (by decide)
      have h2 : 8 ^ (0 + s.data.toList.length) ≤ 8 ^ 11 := Nat.pow_le_pow_right (by omega) (by rw [qAn]; omega)
      have h3 : (8 : Nat) ^ 11 = 8589934592 := by decide
      rw [h3] at h2
      have h4 := Nat.lt_of_lt_of_le h1 h2
      clear h1 h2 h3 e g
      simp only
      omega
  · simp
theorem qHd (b : List Int) (h : Bytes b) : Ev (fun k => head_Read.f k b) (readR b) := by
  by_cases hl : b.length = 512
  rotate_left
  · refine ⟨0, fun k hk => ?_⟩
    show head_Read.f k b = _
    unfold head_Read.f readR
    rw [if_neg (by omega), if_neg (fun x => hl x.1)]
  obtain ⟨K1, k1⟩ := qFh (fieldR ((b.take 136).drop 124))
  refine ⟨K1 + 1, fun k hk => ?_⟩
  have k1 := k1 k (by omega)
  obtain ⟨k, rfl⟩ : ∃ m, k = m + 1 := ⟨k - 1, by omega⟩
  simp only at k1
  have hr := (qEh (fieldR ((b.take 136).drop 124))).2
  show head_Read.f _ b = _
  unfold head_Read.f
  have f0 := qC0 (b.take 100) (h.take _) (by rw [List.length_take]; omega)
  have f1 := qC0 ((b.take 257).drop 157) ((h.take _).drop _) (by rw [List.length_drop, List.length_take]; omega)
  have f2 := qC0 ((b.take 108).drop 100) ((h.take _).drop _) (by rw [List.length_drop, List.length_take]; omega)
  have f3 := qC0 ((b.take 136).drop 124) ((h.take _).drop _) (by rw [List.length_drop, List.length_take]; omega)
  rw [if_pos (by omega), if_pos (by omega), f0]
  simp only [Option.bind_some]
  rw [if_pos (by decide), if_pos (by omega), f1]
  simp only [Option.bind_some]
  rw [if_pos (by omega), if_pos (by decide), if_pos (by omega), f2]
  simp only [Option.bind_some]
  rw [qHp]
  simp only [Option.bind_some]
  rw [if_pos (by decide), if_pos (by omega), f3]
  simp only [Option.bind_some]
  rw [k1]
  simp only [Option.bind_some]
  rw [lay_eq _ _ _ _ _ hr]
  simp only [Option.bind_some]
  have hb := qDp (readN b) (readK b) (readS b) (readL b)
  unfold readR
  show (if (layR (readN b) (readK b) (readS b) (readL b)).2 = true then (if (strOfNums (layR (readN b) (readK b) (readS b) (readL b)).1).toList = (strOfNums b).toList then some (readN b, readK b, readS b, readL b, true) else some (⟨#[]⟩, 0, 0, ⟨#[]⟩, false)) else some (⟨#[]⟩, 0, 0, ⟨#[]⟩, false)) = _
  by_cases e2 : (layR (readN b) (readK b) (readS b) (readL b)).2 = true
  rotate_left
  · rw [if_neg e2, if_neg (fun x => e2 (by rw [x.2]))]
  rw [if_pos e2]
  by_cases e1 : (layR (readN b) (readK b) (readS b) (readL b)).1 = b
  · rw [if_pos ((qB6 _ _ hb h).2 e1), if_pos ⟨hl, Prod.ext e1 e2⟩]
  · rw [if_neg (fun x => e1 ((qB6 _ _ hb h).1 x)), if_neg (fun x => e1 (by rw [x.2]))]
theorem qBx (A B C : List Int) (p q : Nat) (hA : A.length = p) (hB : p + B.length = q) : ((A ++ (B ++ C)).take q).drop p = B := by
  subst hA
  subst hB
  rw [← List.append_assoc, List.take_append_of_le_length (by rw [List.length_append]; omega), List.take_of_length_le (by rw [List.length_append]; omega), List.drop_append_of_le_length (Nat.le_refl _), List.drop_length, List.nil_append]
theorem qCc (n : Nat) (s : ByteArray) (h : (0 : UInt8) ∉ s.data.toList) : fieldR (padS n s) = s := by
  unfold fieldR padS
  have e : (qAr s ++ List.replicate (n - s.size) (0 : Int)).takeWhile (· != 0) = qAr s := by
    have ha : ∀ x ∈ qAr s, (x != 0) = true := by
      intro x hx
      unfold qAr at hx
      obtain ⟨c, hc, rfl⟩ := List.mem_map.1 hx
      have : c ≠ 0 := fun e => h (e ▸ hc)
      have : c.toNat ≠ 0 := fun e => this (UInt8.toNat_inj.1 e)
      simp only [bne_iff_ne, ne_eq]
      omega
    rw [List.takeWhile_append_of_pos ha]
    cases n - s.size with
    | zero => simp
    | succ m => rw [List.replicate_succ, List.takeWhile_cons, if_neg (by simp), List.append_nil]
  rw [e, qC5]
theorem qD4 (name md dg : ByteArray) (Y : List Int) (h0 : name.size ≤ 100) : (canonA name md dg ++ Y).take 100 = padS 100 name := by
  have := qBx [] (padS 100 name) ((padS 8 md ++ (padS 8 z7 ++ (padS 8 z7 ++ (padS 12 dg ++ padS 12 z11)))) ++ Y) 0 100 rfl (by rw [qAj h0])
  rw [List.drop_zero, List.nil_append, ← List.append_assoc] at this
  exact this
theorem qFt (name md dg : ByteArray) (Y : List Int) (h0 : name.size ≤ 100) (h1 : md.size ≤ 8) : ((canonA name md dg ++ Y).take 108).drop 100 = padS 8 md := by
  have := qBx (padS 100 name) (padS 8 md) ((padS 8 z7 ++ (padS 8 z7 ++ (padS 12 dg ++ padS 12 z11))) ++ Y) 100 108 (qAj h0) (by rw [qAj h1])
  rw [← this]
  unfold canonA
  simp only [List.append_assoc]
theorem qFr (name md dg : ByteArray) (Y : List Int) (h0 : name.size ≤ 100) (h1 : md.size ≤ 8) (h2 : dg.size ≤ 12) : ((canonA name md dg ++ Y).take 136).drop 124 = padS 12 dg := by
  have := qBx (padS 100 name ++ (padS 8 md ++ (padS 8 z7 ++ padS 8 z7))) (padS 12 dg) (padS 12 z11 ++ Y) 124 136 (by simp only [List.length_append]; rw [qAj h0, qAj h1, qAj (show z7.size ≤ 8 by decide)]) (by rw [qAj h2])
  rw [← this]
  unfold canonA
  simp only [List.append_assoc]
theorem qEt (name md dg : ByteArray) (Y : List Int) (h0 : name.size ≤ 100) (h1 : md.size ≤ 8) (h2 : dg.size = 11) : ((canonA name md dg ++ Y).take 135).drop 124 = qAr dg := by
  have := qBx (padS 100 name ++ (padS 8 md ++ (padS 8 z7 ++ padS 8 z7))) (qAr dg) (List.replicate 1 0 ++ (padS 12 z11 ++ Y)) 124 135 (by simp only [List.length_append]; rw [qAj h0, qAj h1, qAj (show z7.size ≤ 8 by decide)]) (by rw [qAw, h2])
  rw [← this]
  unfold canonA
  have e : padS 12 dg = qAr dg ++ List.replicate 1 0 := by rw [padS, h2]
  rw [e]
  simp only [List.append_assoc]
theorem qFs (A C : List Int) (c : UInt8) (link : ByteArray) (hA : A.length = 148) (hC : C.length = 8) : rd (A ++ (C ++ canonB ⟨#[c]⟩ link)) 156 = (c.toNat : Int) := by
  have e : canonB ⟨#[c]⟩ link = (c.toNat : Int) :: (padS 100 link ++ (padS 8 us8 ++ List.replicate 247 0)) := rfl
  rw [e, ← List.append_assoc]
  generalize (padS 100 link ++ (padS 8 us8 ++ List.replicate 247 0)) = Y
  unfold rd
  have hl : (A ++ C).length = 156 := by rw [List.length_append]; omega
  rw [show (156 : Int).toNat = 156 from rfl, List.getD_eq_getElem?_getD, List.getElem?_append_right (by omega), hl]
  rfl
theorem qFu (A C : List Int) (c : UInt8) (link : ByteArray) (hA : A.length = 148) (hC : C.length = 8) (h : link.size ≤ 100) : ((A ++ (C ++ canonB ⟨#[c]⟩ link)).take 257).drop 157 = padS 100 link := by
  have := qBx (A ++ (C ++ padS 1 ⟨#[c]⟩)) (padS 100 link) (padS 8 us8 ++ List.replicate 247 0) 157 257 (by simp only [List.length_append]; rw [qAj (show (⟨#[c]⟩ : ByteArray).size ≤ 1 from Nat.le_refl 1)]; omega) (by rw [qAj h])
  rw [← this]
  unfold canonB
  simp only [List.append_assoc]
theorem qGc (a : Int) (h1 : 1 ≤ a) (h5 : a ≤ 5) : kindR ((signR a).toNat : Int) (modeR a) = a := by
  rcases kinds a h1 h5 with rfl | rfl | rfl | rfl | rfl <;> decide +kernel
theorem qFk (a : Int) : (0 : UInt8) ∉ (modeR a).data.toList := by
  unfold modeR
  split
  · decide
  split <;> decide
theorem qDa : ∀ n u, ∀ c ∈ octP n u, c ≠ 0
  | 0, _, c, h => by cases h
  | n + 1, u, c, h => by
    rw [octP] at h
    rcases List.mem_append.1 h with h | h
    · exact qDa n _ c h
    · obtain rfl := List.mem_singleton.1 h
      have h8 : u % 8 < 8 := Nat.mod_lt _ (by omega)
      have := qGh (u % 8) h8
      intro e
      rw [e] at this
      have : (0 : UInt8).toNat = 0 := rfl
      omega
theorem qFf (a0 : ByteArray) (a1 : Int) (n : Nat) (a3 : ByteArray) (hm : MayR a0 a1 n a3) (hn : n < 8589934592) :
    readN (layB a0 a1 n a3) = a0 ∧ readK (layB a0 a1 n a3) = a1 ∧ readS (layB a0 a1 n a3) = (n : Int) ∧ readL (layB a0 a1 n a3) = a3 ∧ ofOctR (strOfNums (((layB a0 a1 n a3).take 135).drop 124)) = ((n : Int), true) := by
  have s1 : (modeR a1).size ≤ 8 := by rw [qB3]; omega
  have s2 : (⟨(octP 11 n).toArray⟩ : ByteArray).size ≤ 12 := by rw [qBp, qAv]; omega
  have s22 : (⟨(octP 11 n).toArray⟩ : ByteArray).size = 11 := by rw [qBp, qAv]
  have h0 := hm.2.1
  have h3 := hm.2.2.2.1
  have lA := qBt a0 (modeR a1) ⟨(octP 11 n).toArray⟩ h0 s1 s2
  have lC := qDg (ckSum (canonA a0 (modeR a1) ⟨(octP 11 n).toArray⟩) (canonB ⟨#[signR a1]⟩ a3))
  have ho := qFi 11 n (by omega) (by omega) hn
  rw [qB4 a0 a1 n a3 h0 h3]
  generalize ckOf (ckSum (canonA a0 (modeR a1) ⟨(octP 11 n).toArray⟩) (canonB ⟨#[signR a1]⟩ a3)) = C at *
  unfold readN readK readS readL
  rw [qD4 _ _ _ _ h0, qFt _ _ _ _ h0 s1, qFr _ _ _ _ h0 s1 s2, qEt _ _ _ _ h0 s1 s22, qFs _ _ _ _ lA lC, qFu _ _ _ _ lA lC h3, qCc _ _ hm.2.2.1, qCc _ _ (qFk a1), qCc _ _ (fun x => qDa 11 n 0 x rfl), qCc _ _ hm.2.2.2.2.1, qGc a1 hm.2.2.2.2.2.1 hm.2.2.2.2.2.2.1, qC5, ho]
  exact ⟨rfl, rfl, rfl, rfl, rfl⟩
theorem qGa {a0 : ByteArray} {a1 a2 : Int} {a3 : ByteArray} {b : List Int} (h : layR a0 a1 a2 a3 = (b, true)) : ∃ n : Nat, a2 = n ∧ MayR a0 a1 n a3 ∧ n < 8589934592 ∧ b = layB a0 a1 n a3 := by
  unfold layR at h
  split at h
  · rename_i hc
    obtain ⟨n, rfl⟩ := Int.eq_ofNat_of_zero_le hc.2.1
    exact ⟨n, rfl, hc.1, by have := hc.2.2; omega, ((Prod.mk.inj h).1).symm⟩
  · cases (Prod.mk.inj h).2
theorem qEd {a0 : ByteArray} {a1 a2 : Int} {a3 : ByteArray} {b : List Int} (h : layR a0 a1 a2 a3 = (b, true)) : readR b = (a0, a1, a2, a3, true) ∧ ofOctR (strOfNums ((b.take 135).drop 124)) = (a2, true) ∧ b.length = 512 ∧ readN b = a0 ∧ readL b = a3 := by
  obtain ⟨n, hn2, hm, hn, hb⟩ := qGa h
  have hall := qFf a0 a1 n a3 hm hn
  have hl := qBi a0 a1 n a3 hm.2.1 hm.2.2.2.1
  rw [← hb] at hall hl
  rw [← hn2] at hall
  clear hb
  obtain ⟨e0, e1, e2, e3, e4⟩ := hall
  refine ⟨?_, e4, hl, e0, e3⟩
  have ht : Told b := by
    refine ⟨hl, ?_⟩
    rw [e0, e1, e2, e3]
    exact h
  unfold readR
  rw [if_pos ht, e0, e1, e2, e3]
end Go.Proofs.YtdijnmcfpbceaaaDoor.X
