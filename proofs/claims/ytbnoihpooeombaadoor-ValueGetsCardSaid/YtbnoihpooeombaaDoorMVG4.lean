/- Part 4 of what is behind the row RowValueGets: Pf29, XVPB, Pf9, XVPC, XVKA, XVKB. -/
import Derived.Test.YtbnoihpooeombaaDoorMVG3
import Derived.Test.YtbnoihpooeombaaDoorProg
import Derived.Below
import Derived.Deep.Draws
import Derived.Deep.AppendLies
import Derived.Maps.AppendAt
import Derived.OwnWalk
import Derived.Laws.BytesArg
import Derived.Laws.MakeOwn
import Derived.Laws.OwnMore
import Derived.Deep.OwnRows
import Derived.Tactics
import Derived.Lib.ConvBytes
import Derived.Laws.Slices
import Derived.WalkKit
import Derived.KernelRfl
import Derived.RowKit3
import Derived.Deep.LoopGhost
import Derived.Deep.QuietTactic
import Derived.BigQuiet
import Derived.WideLaws
import Derived.Deep.DeepCutAuto
import Derived.Deep.CutBlock
import Derived.Deep.RegionHeld3
import Derived.Laws.Rows
import Derived.Lib.AppendStr
import Derived.ArgAppend
import Derived.Laws.IdiomCopy
import Derived.OrdersHeld
import Derived.Laws.BitsLemmas
import Derived.RowKit
import Derived.Laws.Cover1
import Derived.Laws.StructEq
import Derived.Lib.ItoaNum
import Derived.Lib.ItoaMem
import Derived.Deep.AppendSrc
import Derived.Lib.SliceRun
import Derived.Outline
import Derived.WalkLawsBesides
import Derived.WalkSpells
import Derived.LoopTactic
import Derived.Lib.Hide
import Derived.Lib.IndexMore
import Derived.Lib.Bytealg
import Derived.Laws.BitsAllLaws
import Derived.Lib.Repeat
import Derived.Lib.AppendZerosOnto
import Derived.Lib.Overlaps
import Derived.Laws.Externs
import Derived.Laws.CopyOwn
import Derived.Shelf.RegionOpenPlain
import Derived.Laws.Bits64b
import Derived.Laws.NewBlocks
import Derived.Lib.AppendIntMem
import Derived.Shelf.Strings.Builder1
import Derived.Shelf.Strings.Builder2
import Derived.Shelf.Strings.OnBuilder
import Derived.Shelf.Strings.BuilderF
import Derived.Shelf.Strings.BuilderK
import Derived.Shelf.Strconv.Itoa0
import Derived.Shelf.Strconv.Itoa1
import Derived.Shelf.LaysM
import Derived.Shelf.Strconv.Itoa2
import Derived.Shelf.Strconv.Itoa3
import Derived.Shelf.Strings.Prefix
import Derived.Shelf.Bits.Mul64
import Derived.Shelf.Strings.Repeat
import Derived.Deep.DeepMust
import Derived.Lib.ItoaLen
namespace Go.Proofs.YtbnoihpooeombaaDoor.P
open Go.Proofs.YtbnoihpooeombaaDoor.X
open Go.RowKit Go.Proofs.YtbnoihpooeombaaDoorW.PrintWords Go.Proofs.YtbnoihpooeombaaDoorW.PrintLast Go.Proofs.YtbnoihpooeombaaDoorW.PrintMore
attribute [local go_sem] qAr qAu
set_option linter.unusedVariables false
set_option linter.unusedSimpArgs false
mutual
def hogsheadlaw15_great.l0 : Nat → List (S25) → Int → Int → Option (Bool)
 | 0, _, _, _ => none
 | k + 1, x0, x3, x4 => if x4 < (x0.length : Int) then (hogsheadlaw15_great.j1 k x0 x3 x4 (decide ((x0.length : Int) ≤ 12))) else (hogsheadlaw15_great.j1 k x0 x3 x4 false)
def hogsheadlaw15_great.j1 : Nat → List (S25) → Int → Int → Bool → Option (Bool)
 | 0, _, _, _, _ => none
 | k + 1, x0, x3, x4, x13 => if x13 = true then (if 0 ≤ x4 then (if x4 < (x0.length : Int) then ((hogsheadlaw0_GreatValue.f k ((rd_T25 x0 x4).f0) ((rd_T25 x0 x4).f1) ((rd_T25 x0 x4).f2) ((rd_T25 x0 x4).f3) ((rd_T25 x0 x4).f4) ((rd_T25 x0 x4).f5) 60).bind fun t290 => (if t290 = true then (some true) else (hogsheadlaw15_great.l0 k x0 (wrap64 (x3 + 1)) (wrap64 (x4 + 1))))) else (none)) else (none)) else (some (x3 != (x0.length : Int)))
end
def hogsheadlaw15_great.f (k : Nat) (l0 : List (S25)) : Option (Bool) := hogsheadlaw15_great.l0 k l0 0 0
set_option maxHeartbeats 8000000 in
set_option maxRecDepth 100000 in
theorem hogsheadlaw15_great.calls (k : Nat) (A0 : Option Addr) (c0 : Nat) (l0 : List (S25)) (r : Bool) (w : World) (hr0 : Kd.C k25 w A0 l0.length l0) (hc0 : l0.length ≤ c0) (h : hogsheadlaw15_great.f k l0 = some r) :
  Calls Tryd.prog 29 #[.slice A0 l0.length c0] w fun e w' => e = .returned (.bool r) ∧ Below w.heap.size w w' := by
 have hu25 := Tryd.underlying25
 have HR0 := Aside0.mk hr0
 have HC0 := Aside0.mk hc0
 clear hr0 hc0
 have HB := Aside0.mk (Below.refl w.heap.size w)
 have H : (hogsheadlaw15_great.l0 k l0 0 0) = some r := h
 clear h
 have H' := Aside0.mk H
 clear H
 go_enter Tryd.func29, Tryd.ntmps29
 go_wp2
 go_loopg [3, 4] k (fun kq v3 v4 w' => ∃ (x3_1 : Int) (x4_1 : Int), v3 = .int .i64 x3_1 ∧ v4 = .int .i64 x4_1 ∧ Aside0 (hogsheadlaw15_great.l0 kq l0 x3_1 x4_1 = some r) ∧ Aside0 (kq ≤ k) ∧ Aside0 (Below w.heap.size w w'))
 case atStart => exact ⟨(0), (0), (by first | rfl | (simp; done) | (simp [*]; done) | exact congrArg Value.bool (nil_ne _) | exact congrArg Value.bool (nil_eq _) | exact congrArg Value.bool (nil_ne' _)), (by first | rfl | (simp; done) | (simp [*]; done) | exact congrArg Value.bool (nil_ne _) | exact congrArg Value.bool (nil_eq _) | exact congrArg Value.bool (nil_ne' _)), H', ⟨Nat.le_refl _⟩, ⟨by repeat (first | (with_reducible first | exact HB.out | apply qAd | apply qAc | apply qAe) | exact HB.out)⟩⟩
 case round =>
  clear H'
  obtain ⟨x3_1, x4_1, rfl, rfl, HA, HK1, HB⟩ := hrel
  cases gk with
  | zero => exact absurd HA.out (by simp [hogsheadlaw15_great.l0])
  | succ k1 =>
   have H := HA.out
   clear HA
   simp only [hogsheadlaw15_great.l0] at H
   have HC2 := Aside0.mk H
   clear H
   go_upto_region 3 with (fail)
   go_cut [13] (fun v13 wc => ∃ (kq : Nat) (x13_1 : Bool), v13 = .bool x13_1 ∧ Aside0 (hogsheadlaw15_great.j1 kq l0 x3_1 x4_1 x13_1 = some r) ∧ Aside0 (kq ≤ k1) ∧ Aside0 (Below w.heap.size w wc))
   case first =>
    have H := HC2.out
    clear HC2
    by_cases c3 : x4_1 < (l0.length : Int)
    ·rw [if_pos c3] at H
     have c3b0 : decide (x4_1 < (l0.length : Int)) = true := decide_eq_true c3
     clear c3
     (first | rw [c3b0] | (simp only [i64_w, i32_w]; rw [c3b0]) | skip)
     have H' := Aside0.mk H
     clear H
     go_wp2
     go_meet
     case rel => exact ⟨_, (decide ((l0.length : Int) ≤ 12)), (by first | rfl | (simp; done) | (simp [*]; done) | exact congrArg Value.bool (nil_ne _) | exact congrArg Value.bool (nil_eq _) | exact congrArg Value.bool (nil_ne' _)), H', ⟨by have := HK1.out; first | omega | exact Nat.le_refl _⟩, ⟨by repeat (first | (with_reducible first | exact HB.out | apply qAd | apply qAc | apply qAe) | exact HB.out)⟩⟩
    ·rw [if_neg c3] at H
     have c3b0 : decide (x4_1 < (l0.length : Int)) = false := decide_eq_false c3
     clear c3
     (first | rw [c3b0] | (simp only [i64_w, i32_w]; rw [c3b0]) | skip)
     have H' := Aside0.mk H
     clear H
     go_wp2
     go_meet
     case rel => exact ⟨_, (false), (by first | rfl | (simp; done) | (simp [*]; done) | exact congrArg Value.bool (nil_ne _) | exact congrArg Value.bool (nil_eq _) | exact congrArg Value.bool (nil_ne' _)), H', ⟨by have := HK1.out; first | omega | exact Nat.le_refl _⟩, ⟨by repeat (first | (with_reducible first | exact HB.out | apply qAd | apply qAc | apply qAe) | exact HB.out)⟩⟩
   case rest =>
    clear HC2
    try clear c2
    try clear p2
    try clear c3
    try clear c3b0
    obtain ⟨kq, x13_1, rfl, HA, HJ1, HB⟩ := hcut
    cases kq with
    | zero => exact absurd HA.out (by simp [hogsheadlaw15_great.j1])
    | succ kj1 =>
     have H := HA.out
     clear HA
     simp only [hogsheadlaw15_great.j1] at H
     by_cases c4 : x13_1 = true
     ·subst c4
      have H1 : (if 0 ≤ x4_1 then (if x4_1 < (l0.length : Int) then ((hogsheadlaw0_GreatValue.f kj1 ((rd_T25 l0 x4_1).f0) ((rd_T25 l0 x4_1).f1) ((rd_T25 l0 x4_1).f2) ((rd_T25 l0 x4_1).f3) ((rd_T25 l0 x4_1).f4) ((rd_T25 l0 x4_1).f5) 60).bind fun t290 => (if t290 = true then (some true) else (hogsheadlaw15_great.l0 kj1 l0 (wrap64 (x3_1 + 1)) (wrap64 (x4_1 + 1))))) else (none)) else (none)) = some r := by rw [if_pos rfl] at H; exact H
      clear H
      have H := H1
      clear H1
      by_cases c5 : 0 ≤ x4_1
      ·rw [if_pos c5] at H
       have c5b0 : decide (0 ≤ x4_1) = true := decide_eq_true c5
       clear c5
       by_cases c6 : x4_1 < (l0.length : Int)
       ·rw [if_pos c6] at H
        have c6b0 : decide (x4_1 < (l0.length : Int)) = true := decide_eq_true c6
        clear c6
        replace H := Option.bind_eq_some_iff.mp H
        obtain ⟨t290, A70, H⟩ := H
        replace H : (if t290 = true then (some true) else (hogsheadlaw15_great.l0 kj1 l0 (wrap64 (x3_1 + 1)) (wrap64 (x4_1 + 1)))) = some r := H
        have A7 := Aside0.mk A70
        clear A70
        by_cases c8 : t290 = true
        ·subst c8
         have H1 : (some true) = some r := by rw [if_pos rfl] at H; exact H
         clear H
         have H := H1
         clear H1
         obtain rfl := Option.some.inj H
         have p289 : 0 ≤ (x4_1 : Int) := of_decide_eq_true (by first | (with_reducible assumption) | assumption)
         have q289 : x4_1 < (l0.length : Int) := of_decide_eq_true (by first | (with_reducible assumption) | assumption)
         obtain ⟨ad289, A289_4, c289_4, A289_5, c289_5, e289, hx289_0, hx289_1, hx289_2, hx289_3, hx289_4, hx289_5, hl289_4, hi289_4, hl289_5, hi289_5⟩ := at_T25 HR0.out x4_1 p289 q289
         cases e289
         replace hx289_0 := (HB.out.cell (World.block_lt_of_cell? w _ hx289_0)).trans hx289_0
         replace hx289_1 := (HB.out.cell (World.block_lt_of_cell? w _ hx289_1)).trans hx289_1
         replace hx289_2 := (HB.out.cell (World.block_lt_of_cell? w _ hx289_2)).trans hx289_2
         replace hx289_3 := (HB.out.cell (World.block_lt_of_cell? w _ hx289_3)).trans hx289_3
         replace hx289_4 := (HB.out.cell (World.block_lt_of_cell? w _ hx289_4)).trans hx289_4
         replace hx289_5 := (HB.out.cell (World.block_lt_of_cell? w _ hx289_5)).trans hx289_5
         have HR289_4 := Aside0.mk hi289_4
         have HC289_4 := Aside0.mk hl289_4
         clear hi289_4 hl289_4
         have HR289_5 := Aside0.mk hi289_5
         have HC289_5 := Aside0.mk hl289_5
         clear hi289_5 hl289_5
         replace p289 := eq_true p289
         replace q289 := eq_true q289
         go_wp2_with (first | ((with_reducible refine qAp (f := 14) rfl ?_); refine goesL_ (some 20) rfl rfl Tryd.func14 (by kernel_rfl) rfl #[.agg #[.int .i64 ((rd_T25 l0 x4_1).f0), .bool ((rd_T25 l0 x4_1).f1), .int .i64 ((rd_T25 l0 x4_1).f2), .string ((rd_T25 l0 x4_1).f3), .slice A289_4 ((rd_T25 l0 x4_1).f4).length c289_4, .slice A289_5 ((rd_T25 l0 x4_1).f5).length c289_5], .int .i64 60] rfl (by (try simp only [List.map_toArray, List.map_cons, List.map_nil]); first | done | rfl | (simp only [List.length_drop, List.length_take]; rfl)) ?_; (with_reducible refine (hogsheadlaw0_GreatValue.calls kj1 ((rd_T25 l0 x4_1).f0) ((rd_T25 l0 x4_1).f1) ((rd_T25 l0 x4_1).f2) ((rd_T25 l0 x4_1).f3) _ _ ((rd_T25 l0 x4_1).f4) _ _ ((rd_T25 l0 x4_1).f5) 60 true _ ?side1 ?side2 ?side3 ?side4 A7.out).mono ?_); (case side1 => repeat (first | exact (Kd.C_below HR289_4.out HB.out) | (with_reducible refine Kd.C_alloc ?_ _) | (with_reducible refine Kd.C_drewN ?_ _) | (with_reducible refine Kd.C_drew ?_))); (case side2 => exact HC289_4.out); (case side3 => repeat (first | exact (Kd.C_below HR289_5.out HB.out) | (with_reducible refine Kd.C_alloc ?_ _) | (with_reducible refine Kd.C_drewN ?_ _) | (with_reducible refine Kd.C_drew ?_))); (case side4 => exact HC289_5.out); rintro e w9 ⟨rfl, hb⟩; refine ⟨_, rfl, ?_⟩; have n0_ := Aside0.mk (qAi (by repeat (first | (with_reducible first | exact HB.out | apply qAd | apply qAc | apply qAe) | exact HB.out)) hb); clear HB; have HB := n0_; clear n0_; (try clear hb); (try clear hb2); (try clear hk); (try clear hi)))
         go_ret
         exact ⟨by first | rfl | (simp [qAl, qAk] <;> rfl) | (simp [*, qAl, qAk] <;> rfl), by repeat (first | (with_reducible first | exact HB.out | apply qAd | apply qAc | apply qAe) | exact HB.out)⟩
        ·replace c8 := Bool.eq_false_iff.mpr c8
         subst c8
         have H1 : (hogsheadlaw15_great.l0 kj1 l0 (wrap64 (x3_1 + 1)) (wrap64 (x4_1 + 1))) = some r := by rw [if_neg (show ¬ (false = true) by decide)] at H; exact H
         clear H
         have H := H1
         clear H1
         have H' := Aside0.mk H
         clear H
         have p289 : 0 ≤ (x4_1 : Int) := of_decide_eq_true (by first | (with_reducible assumption) | assumption)
         have q289 : x4_1 < (l0.length : Int) := of_decide_eq_true (by first | (with_reducible assumption) | assumption)
         obtain ⟨ad289, A289_4, c289_4, A289_5, c289_5, e289, hx289_0, hx289_1, hx289_2, hx289_3, hx289_4, hx289_5, hl289_4, hi289_4, hl289_5, hi289_5⟩ := at_T25 HR0.out x4_1 p289 q289
         cases e289
         replace hx289_0 := (HB.out.cell (World.block_lt_of_cell? w _ hx289_0)).trans hx289_0
         replace hx289_1 := (HB.out.cell (World.block_lt_of_cell? w _ hx289_1)).trans hx289_1
         replace hx289_2 := (HB.out.cell (World.block_lt_of_cell? w _ hx289_2)).trans hx289_2
         replace hx289_3 := (HB.out.cell (World.block_lt_of_cell? w _ hx289_3)).trans hx289_3
         replace hx289_4 := (HB.out.cell (World.block_lt_of_cell? w _ hx289_4)).trans hx289_4
         replace hx289_5 := (HB.out.cell (World.block_lt_of_cell? w _ hx289_5)).trans hx289_5
         have HR289_4 := Aside0.mk hi289_4
         have HC289_4 := Aside0.mk hl289_4
         clear hi289_4 hl289_4
         have HR289_5 := Aside0.mk hi289_5
         have HC289_5 := Aside0.mk hl289_5
         clear hi289_5 hl289_5
         replace p289 := eq_true p289
         replace q289 := eq_true q289
         go_wp2_with (first | ((with_reducible refine qAp (f := 14) rfl ?_); refine goesL_ (some 20) rfl rfl Tryd.func14 (by kernel_rfl) rfl #[.agg #[.int .i64 ((rd_T25 l0 x4_1).f0), .bool ((rd_T25 l0 x4_1).f1), .int .i64 ((rd_T25 l0 x4_1).f2), .string ((rd_T25 l0 x4_1).f3), .slice A289_4 ((rd_T25 l0 x4_1).f4).length c289_4, .slice A289_5 ((rd_T25 l0 x4_1).f5).length c289_5], .int .i64 60] rfl (by (try simp only [List.map_toArray, List.map_cons, List.map_nil]); first | done | rfl | (simp only [List.length_drop, List.length_take]; rfl)) ?_; (with_reducible refine (hogsheadlaw0_GreatValue.calls kj1 ((rd_T25 l0 x4_1).f0) ((rd_T25 l0 x4_1).f1) ((rd_T25 l0 x4_1).f2) ((rd_T25 l0 x4_1).f3) _ _ ((rd_T25 l0 x4_1).f4) _ _ ((rd_T25 l0 x4_1).f5) 60 false _ ?side1 ?side2 ?side3 ?side4 A7.out).mono ?_); (case side1 => repeat (first | exact (Kd.C_below HR289_4.out HB.out) | (with_reducible refine Kd.C_alloc ?_ _) | (with_reducible refine Kd.C_drewN ?_ _) | (with_reducible refine Kd.C_drew ?_))); (case side2 => exact HC289_4.out); (case side3 => repeat (first | exact (Kd.C_below HR289_5.out HB.out) | (with_reducible refine Kd.C_alloc ?_ _) | (with_reducible refine Kd.C_drewN ?_ _) | (with_reducible refine Kd.C_drew ?_))); (case side4 => exact HC289_5.out); rintro e w10 ⟨rfl, hb⟩; refine ⟨_, rfl, ?_⟩; have n0_ := Aside0.mk (qAi (by repeat (first | (with_reducible first | exact HB.out | apply qAd | apply qAc | apply qAe) | exact HB.out)) hb); clear HB; have HB := n0_; clear n0_; (try clear hb); (try clear hb2); (try clear hk); (try clear hi)))
         go_roundg kj1
         case measure => have := HK1.out; have := HJ1.out; omega
         case rel => exact ⟨(wrap64 (x3_1 + 1)), (wrap64 (x4_1 + 1)), (by first | rfl | (simp; done) | (simp [*]; done) | exact congrArg Value.bool (nil_ne _) | exact congrArg Value.bool (nil_eq _) | exact congrArg Value.bool (nil_ne' _)), (by first | rfl | (simp; done) | (simp [*]; done) | exact congrArg Value.bool (nil_ne _) | exact congrArg Value.bool (nil_eq _) | exact congrArg Value.bool (nil_ne' _)), H', ⟨by have := HK1.out; have := HJ1.out; omega⟩, ⟨by repeat (first | (with_reducible first | exact HB.out | apply qAd | apply qAc | apply qAe) | exact HB.out)⟩⟩
       ·rw [if_neg c6] at H
        exact absurd H (by simp)
      ·rw [if_neg c5] at H
       exact absurd H (by simp)
     ·replace c4 := Bool.eq_false_iff.mpr c4
      subst c4
      have H1 : (some (x3_1 != (l0.length : Int))) = some r := by rw [if_neg (show ¬ (false = true) by decide)] at H; exact H
      clear H
      have H := H1
      clear H1
      obtain rfl := Option.some.inj H
      go_wp2
      go_ret
      exact ⟨by first | rfl | (simp [qAl, qAk] <;> rfl) | (simp [*, qAl, qAk] <;> rfl), by repeat (first | (with_reducible first | exact HB.out | apply qAd | apply qAc | apply qAe) | exact HB.out)⟩
end Go.Proofs.YtbnoihpooeombaaDoor.P

namespace Go.Proofs.YtbnoihpooeombaaDoor.X
open Go.RowKit Go.Proofs.YtbnoihpooeombaaDoorW.PrintWords Go.Proofs.YtbnoihpooeombaaDoor.P
set_option linter.unusedVariables false
set_option linter.unusedSimpArgs false
theorem qHd (vs : List S25) (hn : vs.length ≤ 12) : ∀ (j i : Nat), vs.length - i = j → i ≤ vs.length → ∃ b, Ev (fun k => hogsheadlaw15_great.l0 k vs (i : Int) (i : Int)) b ∧ (b = false → ∀ v ∈ vs.drop i, Small 60 v) := by
  intro j
  induction j with
  | zero =>
    intro i hj hi
    refine ⟨false, ⟨2, fun k hk => ?_⟩, fun _ v hv => ?_⟩
    · obtain ⟨k, rfl⟩ : ∃ m, k = m + 2 := ⟨k - 2, by omega⟩
      simp only [hogsheadlaw15_great.l0]
      rw [if_neg (by omega)]
      simp only [hogsheadlaw15_great.j1]
      rw [if_neg (by decide)]
      have : i = vs.length := by omega
      subst this
      simp
    · rw [List.drop_eq_nil_of_le (by omega)] at hv; cases hv
  | succ j ih =>
    intro i hj hi
    have hlt : i < vs.length := by omega
    obtain ⟨g, ⟨K1, h1⟩, hg⟩ := qHe vs[i] 60 (by omega)
    obtain ⟨b, ⟨K2, h2⟩, hb⟩ := ih (i + 1) (by omega) (by omega)
    cases g with
    | true =>
      refine ⟨true, ⟨K1 + 2, fun k hk => ?_⟩, fun h => by cases h⟩
      obtain ⟨k, rfl⟩ : ∃ m, k = m + 2 := ⟨k - 2, by omega⟩
      have h1 := h1 k (by omega)
      simp only at h1
      simp only [hogsheadlaw15_great.l0]
      rw [if_pos (by omega)]
      simp only [hogsheadlaw15_great.j1]
      rw [if_pos (decide_eq_true (by omega)), if_pos (by omega), if_pos (by omega), qB5 vs i hlt, show (60 : Int) = ((60 : Nat) : Int) from rfl, h1]
      rfl
    | false =>
      refine ⟨b, ⟨K1 + K2 + 2, fun k hk => ?_⟩, fun h v hv => ?_⟩
      · obtain ⟨k, rfl⟩ : ∃ m, k = m + 2 := ⟨k - 2, by omega⟩
        have h1 := h1 k (by omega)
        have h2 := h2 k (by omega)
        simp only at h1 h2
        have E3 : Aside0 (wrap64 ((i : Int) + 1) = ((i + 1 : Nat) : Int)) := ⟨qBn (by omega) (by omega)⟩
        simp only [hogsheadlaw15_great.l0]
        rw [if_pos (by omega)]
        simp only [hogsheadlaw15_great.j1]
        rw [if_pos (decide_eq_true (by omega)), if_pos (by omega), if_pos (by omega), qB5 vs i hlt, show (60 : Int) = ((60 : Nat) : Int) from rfl, h1]
        simp only [Option.bind_some]
        rw [if_neg (by decide), E3.out]
        exact h2
      · rw [List.drop_eq_getElem_cons hlt] at hv
        rcases List.mem_cons.1 hv with rfl | hv
        · exact hg rfl
        · exact hb h v hv
theorem qFw (vs : List S25) : ∃ b, Ev (fun k => hogsheadlaw15_great.f k vs) b ∧ (b = false → vs.length ≤ 12 ∧ ∀ v ∈ vs, Small 60 v) := by
  by_cases hn : vs.length ≤ 12
  · obtain ⟨b, h1, h2⟩ := qHd vs hn vs.length 0 (by omega) (by omega)
    rw [List.drop_zero] at h2
    exact ⟨b, h1, fun h => ⟨hn, h2 h⟩⟩
  · refine ⟨true, ⟨2, fun k hk => ?_⟩, fun h => by cases h⟩
    obtain ⟨k, rfl⟩ : ∃ m, k = m + 2 := ⟨k - 2, by omega⟩
    show hogsheadlaw15_great.l0 _ vs 0 0 = _
    simp only [hogsheadlaw15_great.l0]
    rw [if_pos (by omega)]
    simp only [hogsheadlaw15_great.j1]
    rw [if_neg (by rw [decide_eq_true_eq]; omega)]
    congr 1
    rw [bne_iff_ne]
    omega
theorem tw_all {α : Type} (p : α → Bool) : ∀ l : List α, (∀ x ∈ l, p x = true) → l.takeWhile p = l
  | [], _ => rfl
  | a :: l, h => by rw [List.takeWhile_cons_of_pos (h a (List.mem_cons_self ..)), tw_all p l (fun x hx => h x (List.mem_cons_of_mem _ hx))]
theorem qG8 {K : List ByteArray} {key : ByteArray} (h : ∀ s ∈ K, lessB s key = true) : posK K key = K.length ∧ isK K key = false := by
  have hp : posK K key = K.length := by
    unfold posK
    rw [tw_all _ K (fun s hs => h s hs)]
  refine ⟨hp, decide_eq_false (fun ⟨h1, _⟩ => ?_)⟩
  rw [hp] at h1
  omega
theorem qDi : ∀ (K : List ByteArray) (a : ByteArray) (l : List ByteArray), qAv (K ++ a :: l) = true → ∀ s ∈ K, lessB s a = true
  | [], a, l, _, s, hs => by cases hs
  | b :: K, a, l, h, s, hs => by
    obtain ⟨h1, h2⟩ := qBz h
    rcases List.mem_cons.1 hs with rfl | hs
    · exact h2 a (List.mem_append_right _ (List.mem_cons_self ..))
    · exact qDi K a l h1 s hs
theorem qDm : ∀ (ks : List ByteArray) (vs : List S25) (K : List ByteArray) (V : List S25), qAv (K ++ ks) = true → ks.length = vs.length → K.length = V.length → ofP ks vs K V = (K ++ ks, V ++ vs)
  | [], [], K, V, _, _, _ => by simp [ofP]
  | [], _ :: _, K, V, _, h, _ => by simp at h
  | _ :: _, [], K, V, _, h, _ => by simp at h
  | k :: ks, v :: vs, K, V, hr, hl, hv => by
    obtain ⟨h1, h2⟩ := qG8 (qDi K k ks hr)
    rw [ofP, if_neg (by rw [h2]; decide), h1, List.take_of_length_le (Nat.le_refl _), List.drop_of_length_le (Nat.le_refl _), hv, List.take_of_length_le (Nat.le_refl _), List.drop_of_length_le (Nat.le_refl _)]
    rw [qDm ks vs (K ++ [k]) (V ++ [v]) (by simpa using hr) (by simpa using hl) (by simp [hv])]
    simp
theorem qHn {x : S25} (h : Small 60 x) : T 60 4000 x := ⟨h.1, by have := h.2; omega⟩
end Go.Proofs.YtbnoihpooeombaaDoor.X

namespace Go.Proofs.YtbnoihpooeombaaDoor.P
open Go.Proofs.YtbnoihpooeombaaDoor.X
open Go.RowKit Go.Proofs.YtbnoihpooeombaaDoorW.PrintWords Go.Proofs.YtbnoihpooeombaaDoorW.PrintLast Go.Proofs.YtbnoihpooeombaaDoorW.PrintMore
attribute [local go_sem] qAr qAu
set_option linter.unusedVariables false
set_option linter.unusedSimpArgs false
mutual
def hogsheadlaw15_ValueParts.j0 : Nat → List (S25) → Bool → Option (Bool)
 | 0, _, _ => none
 | k + 1, x0, x23 => if x23 = true then ((hogsheadlaw15_awake.f k).bind fun t461 => (some t461)) else (hogsheadlaw15_ValueParts.l0 k x0 (⟨#[91]⟩ : ByteArray) (⟨#[123]⟩ : ByteArray) ([] : List ByteArray) true 0)
def hogsheadlaw15_ValueParts.l0 : Nat → List (S25) → ByteArray → ByteArray → List ByteArray → Bool → Int → Option (Bool)
 | 0, _, _, _, _, _, _ => none
 | k + 1, x0, x3, x4, x5, x6, x7 => if x7 < (x0.length : Int) then (if 0 ≤ x7 then ((value_Lay.f k ((rd_T25 x0 x7).f0) ((rd_T25 x0 x7).f1) ((rd_T25 x0 x7).f2) ((rd_T25 x0 x7).f3) ((rd_T25 x0 x7).f4) ((rd_T25 x0 x7).f5)).bind fun bt463 => (if x7 > 0 then (if x3.size + 1 ≤ 9223372036854775807 then (if x4.size + 1 ≤ 9223372036854775807 then (if x7 ≤ (wrap64 (x7 + 1)) then (if (wrap64 (x7 + 1)) ≤ 8 then (if 1 + ((⟨#[48, 49, 50, 51, 52, 53, 54, 55]⟩ : ByteArray).extract (x7 : Int).toNat ((wrap64 (x7 + 1)) : Int).toNat).size ≤ 9223372036854775807 then (if x5.length < 8796093022208 then ((some (x5 ++ [(⟨#[107]⟩ : ByteArray) ++ ((⟨#[48, 49, 50, 51, 52, 53, 54, 55]⟩ : ByteArray).extract (x7 : Int).toNat ((wrap64 (x7 + 1)) : Int).toNat)] : List ByteArray)).bind fun y465 => (if (x3 ++ (⟨#[44]⟩ : ByteArray)).size + bt463.1.size ≤ 9223372036854775807 then ((value_Quote.f k ((⟨#[107]⟩ : ByteArray) ++ ((⟨#[48, 49, 50, 51, 52, 53, 54, 55]⟩ : ByteArray).extract (x7 : Int).toNat ((wrap64 (x7 + 1)) : Int).toNat))).bind fun t468 => (if (x4 ++ (⟨#[44]⟩ : ByteArray)).size + t468.size ≤ 9223372036854775807 then (if ((x4 ++ (⟨#[44]⟩ : ByteArray)) ++ t468).size + 1 ≤ 9223372036854775807 then (if (((x4 ++ (⟨#[44]⟩ : ByteArray)) ++ t468) ++ (⟨#[58]⟩ : ByteArray)).size + bt463.1.size ≤ 9223372036854775807 then (if x6 = true then (hogsheadlaw15_ValueParts.l0 k x0 ((x3 ++ (⟨#[44]⟩ : ByteArray)) ++ bt463.1) ((((x4 ++ (⟨#[44]⟩ : ByteArray)) ++ t468) ++ (⟨#[58]⟩ : ByteArray)) ++ bt463.1) y465 (bt463.2 == 0) (wrap64 (x7 + 1))) else (hogsheadlaw15_ValueParts.l0 k x0 ((x3 ++ (⟨#[44]⟩ : ByteArray)) ++ bt463.1) ((((x4 ++ (⟨#[44]⟩ : ByteArray)) ++ t468) ++ (⟨#[58]⟩ : ByteArray)) ++ bt463.1) y465 false (wrap64 (x7 + 1)))) else (none)) else (none)) else (none))) else (none))) else (none)) else (none)) else (none)) else (none)) else (none)) else (none)) else (if x7 ≤ (wrap64 (x7 + 1)) then (if (wrap64 (x7 + 1)) ≤ 8 then (if 1 + ((⟨#[48, 49, 50, 51, 52, 53, 54, 55]⟩ : ByteArray).extract (x7 : Int).toNat ((wrap64 (x7 + 1)) : Int).toNat).size ≤ 9223372036854775807 then (if x5.length < 8796093022208 then ((some (x5 ++ [(⟨#[107]⟩ : ByteArray) ++ ((⟨#[48, 49, 50, 51, 52, 53, 54, 55]⟩ : ByteArray).extract (x7 : Int).toNat ((wrap64 (x7 + 1)) : Int).toNat)] : List ByteArray)).bind fun y469 => (if x3.size + bt463.1.size ≤ 9223372036854775807 then ((value_Quote.f k ((⟨#[107]⟩ : ByteArray) ++ ((⟨#[48, 49, 50, 51, 52, 53, 54, 55]⟩ : ByteArray).extract (x7 : Int).toNat ((wrap64 (x7 + 1)) : Int).toNat))).bind fun t472 => (if x4.size + t472.size ≤ 9223372036854775807 then (if (x4 ++ t472).size + 1 ≤ 9223372036854775807 then (if ((x4 ++ t472) ++ (⟨#[58]⟩ : ByteArray)).size + bt463.1.size ≤ 9223372036854775807 then (if x6 = true then (hogsheadlaw15_ValueParts.l0 k x0 (x3 ++ bt463.1) (((x4 ++ t472) ++ (⟨#[58]⟩ : ByteArray)) ++ bt463.1) y469 (bt463.2 == 0) (wrap64 (x7 + 1))) else (hogsheadlaw15_ValueParts.l0 k x0 (x3 ++ bt463.1) (((x4 ++ t472) ++ (⟨#[58]⟩ : ByteArray)) ++ bt463.1) y469 false (wrap64 (x7 + 1)))) else (none)) else (none)) else (none))) else (none))) else (none)) else (none)) else (none)) else (none)))) else (none)) else (if ([] : List (S25)).length + x0.length < 1599289640401 then ((some (([] : List (S25)) ++ x0 : List (S25))).bind fun y473 => ((some (([] : List (S25)) ++ x0 : List (S25))).bind fun y477 => ((value_Lay.f k 4 false 0 (⟨#[]⟩ : ByteArray) y473 ([] : List ByteArray)).bind fun bt481 => ((value_Lay.f k 5 false 0 (⟨#[]⟩ : ByteArray) y477 x5).bind fun bt483 => (if x6 = true then (if bt481.2 = 0 then (if x3.size + 1 ≤ 9223372036854775807 then (if bt481.1.toList = (x3 ++ (⟨#[93]⟩ : ByteArray)).toList then (if bt483.2 = 0 then (if x4.size + 1 ≤ 9223372036854775807 then (if bt483.1.toList = (x4 ++ (⟨#[125]⟩ : ByteArray)).toList then ((value_Of.f k x5 x0).bind fun bt486 => ((hogsheadlaw0_SameValue.f k bt486.1 bt486.2.1 bt486.2.2.1 bt486.2.2.2.1 bt486.2.2.2.2.1 bt486.2.2.2.2.2 5 false 0 (⟨#[]⟩ : ByteArray) y477 x5 100).bind fun t496 => (if t496 = true then ((hogsheadlaw15_awake.f k).bind fun t497 => (some t497)) else (some false)))) else (some false)) else (none)) else (some false)) else (some false)) else (none)) else (if bt483.2 = bt481.2 then ((value_May.f 4 false 0 (⟨#[]⟩ : ByteArray) y473 ([] : List ByteArray)).bind fun t498 => (if t498 = true then (some false) else ((value_May.f 5 false 0 (⟨#[]⟩ : ByteArray) y477 x5).bind fun t499 => (if t499 = true then (some false) else ((hogsheadlaw15_awake.f k).bind fun t500 => (some t500)))))) else (some false))) else (if bt481.2 = 2 then (if bt483.2 = 2 then (if bt481.1.toList = ([] : List UInt8) then (if bt483.1.toList = ([] : List UInt8) then ((hogsheadlaw15_awake.f k).bind fun t485 => (some t485)) else (some false)) else (some false)) else (some false)) else (some false))))))) else (none))
end
def hogsheadlaw15_ValueParts.f (k : Nat) (l0 : List (S25)) : Option (Bool) := if (l0.length : Int) > 8 then (hogsheadlaw15_ValueParts.j0 k l0 true) else ((hogsheadlaw15_great.f k l0).bind fun t460 => (hogsheadlaw15_ValueParts.j0 k l0 t460))
end Go.Proofs.YtbnoihpooeombaaDoor.P

namespace Go.Proofs.YtbnoihpooeombaaDoor.X
open Go.RowKit Go.Proofs.YtbnoihpooeombaaDoorW.PrintWords Go.Proofs.YtbnoihpooeombaaDoor.P
set_option linter.unusedVariables false
set_option linter.unusedSimpArgs false
def objV (ks : List ByteArray) (vs : List S25) : S25 := ⟨5, false, 0, ⟨#[]⟩, vs, ks⟩
theorem qGh (ks : List ByteArray) (vs : List S25) (d : Nat) (hl : ks.length = vs.length) (hr : qAv ks = true) : goodV (d + 1) (objV ks vs) = vs.all (goodV d) := by
  rw [goodV]
  simp [objV, qA5, qF7, hl, hr]
end Go.Proofs.YtbnoihpooeombaaDoor.X

namespace Go.Proofs.YtbnoihpooeombaaDoor.X
open Go.RowKit Go.Proofs.YtbnoihpooeombaaDoorW.PrintWords Go.Proofs.YtbnoihpooeombaaDoorW.PrintLast Go.Proofs.YtbnoihpooeombaaDoorW.PrintMore Go.Proofs.YtbnoihpooeombaaDoor.P
set_option linter.unusedVariables false
set_option linter.unusedSimpArgs false
theorem qB4 {α : Type} {d : Kd α} {w : World} {g t : Nat} {cs : List Value} {x : α} (h : w.heap[g]? = some (.cells cs.toArray t (0, 0))) (hK : d.K w x cs) : d.C w (some ⟨g, 0, none⟩) 1 [x] := by
  refine ⟨rfl, by omega, fun _ => ⟨⟨g, 0, none⟩, rfl, fun j p hj => ?_⟩⟩
  cases j with
  | zero =>
    cases hj
    refine ⟨cs, d.K_len hK, hK, fun i u hu => ?_⟩
    have e : (⟨g, 0, none⟩ : Addr).add (0 * d.sz + i) = ⟨g, i, none⟩ := by rw [Nat.zero_mul, Nat.zero_add]; simp only [Addr.add, Nat.zero_add]; split <;> first | rfl | (rename_i h_; rw [h_])
    rw [e, qAb h i]
    exact (by simpa using hu : (cs.toArray)[i]? = some u)
  | succ j => simp at hj
theorem qFx (K : Nat) (v : S25) (key other : ByteArray) (A4 : Option Addr) (c4 : Nat) (A5 : Option Addr) (c5 : Nat) (g : Bool) (w : World) (hT : Aside0 (Tabs w))
    (hr4 : k25.C w A4 v.f4.length v.f4) (hc4 : v.f4.length ≤ c4) (hr5 : Kd.C Kd.string w A5 v.f5.length v.f5) (hc5 : v.f5.length ≤ c5)
    (hG : hogsheadlaw15_great.f K [v] = some g) (hA : hogsheadlaw15_awake.f K = some true) (hb : g = true ∨ 100 < key.size ∨ 100 < other.size) :
    Calls Tryd.prog 8 #[.agg #[.int .i64 v.f0, .bool v.f1, .int .i64 v.f2, .string v.f3, .slice A4 v.f4.length c4, .slice A5 v.f5.length c5], .string key, .string other] w fun e w' => e = .returned (.bool true) ∧ Below w.heap.size w w' := by
  have X4 := Aside0.mk hr4
  have X5 := Aside0.mk hr5
  have HG := Aside0.mk hG
  have HA := Aside0.mk hA
  clear hr4 hr5 hG hA
  obtain ⟨bk, hbk⟩ : ∃ b, decide (100 < (key.size : Int)) = b := ⟨_, rfl⟩
  obtain ⟨bo, hbo⟩ : ∃ b, decide (100 < (other.size : Int)) = b := ⟨_, rfl⟩
  have hbb : (g || bk || bo) = true := by
    subst hbk hbo
    rcases hb with h | h | h
    · rw [h]; rfl
    · simp; omega
    · simp; omega
  clear hb
  have HT0 := Aside0.mk (qBo w #[.int .i64 v.f0, .bool v.f1, .int .i64 v.f2, .string v.f3, .slice A4 v.f4.length c4, .slice A5 v.f5.length c5] #[.int .i64 v.f0, .bool v.f1, .int .i64 v.f2, .string v.f3, .slice A4 v.f4.length c4, .slice A5 v.f5.length c5] 25 25)
  have HB0 := Aside0.mk (qAd (qAd (Below.refl w.heap.size w) (.cells #[.int .i64 v.f0, .bool v.f1, .int .i64 v.f2, .string v.f3, .slice A4 v.f4.length c4, .slice A5 v.f5.length c5] 25)) (.cells #[.int .i64 v.f0, .bool v.f1, .int .i64 v.f2, .string v.f3, .slice A4 v.f4.length c4, .slice A5 v.f5.length c5] 25))
  go_enter Tryd.func8, Tryd.ntmps8
  go_wp2_with fail
  generalize (w.alloc (.cells #[.int .i64 v.f0, .bool v.f1, .int .i64 v.f2, .string v.f3, .slice A4 v.f4.length c4, .slice A5 v.f5.length c5] 25)).alloc (.cells #[.int .i64 v.f0, .bool v.f1, .int .i64 v.f2, .string v.f3, .slice A4 v.f4.length c4, .slice A5 v.f5.length c5] 25) = W0 at *
  have HX := Aside0.mk HT0.out.1
  have HGR := Aside0.mk (hogsheadlaw15_great.calls K (some ⟨w.heap.size + 1, 0, none⟩) 1 [v] g W0 (qB4 (d := k25) (x := v) HT0.out.2 (k25_mk W0 v hc4 (Kd.C_below X4.out HB0.out) hc5 (Kd.C_below X5.out HB0.out))) (Nat.le_refl _) HG.out)
  clear HT0 HG
  obtain ⟨HGR⟩ := HGR
  simp only [List.length_singleton] at HGR
  refine HGR.mono ?_
  clear HGR
  rintro e w2 ⟨rfl, hb2⟩
  have HB2 := Aside0.mk (qAi HB0.out hb2)
  have HX2 := Aside0.mk (qAj HX.out hb2)
  clear hb2 HB0 HX
  cases g <;> cases bk <;> cases bo <;> first
  | (simp at hbb; done)
  | (go_wp2_with (go_at_call 15; refine (hogsheadlaw15_awake.calls K true _ ⟨Tabs.below hT.out HB2.out⟩ HA.out).mono ?_; rintro e w3 ⟨rfl, hb3⟩; have HB3 := Aside0.mk (qAi HB2.out hb3); clear hb3)
     go_ret
     exact ⟨rfl, HB3.out⟩)
set_option maxHeartbeats 4000000 in
set_option maxRecDepth 100000 in
theorem qGp (K : Nat) (v o : S25) (m is : Bool) (s : ByteArray) (q : S25) (key other : ByteArray) (A4 : Option Addr) (c4 : Nat) (A5 : Option Addr) (c5 : Nat) (w : World) (hT : Aside0 (Tabs w))
    (hr4 : k25.C w A4 v.f4.length v.f4) (hc4 : v.f4.length ≤ c4) (hr5 : Kd.C Kd.string w A5 v.f5.length v.f5) (hc5 : v.f5.length ≤ c5)
    (hG : hogsheadlaw15_great.f K [v] = some false) (hA : hogsheadlaw15_awake.f K = some true) (hk : key.size ≤ 100) (ho : other.size ≤ 100)
    (hO : value_Of.f K [key] [v] = some (o.f0, o.f1, o.f2, o.f3, o.f4, o.f5)) (hM : value_May.f v.f0 v.f1 v.f2 v.f3 v.f4 v.f5 = some m)
    (hI : (other.toList == key.toList) = is) (hm : m = false → o.f0 = 0) (hL : m = true → o.f0 ≠ 5 → o.f0 = 0 ∧ value_Lay.f K v.f0 v.f1 v.f2 v.f3 v.f4 v.f5 = some (s, 0) ∧ 30 ≤ s.size)
    (hC : m = true → o.f0 = 5 → value_Get.f K o.f0 o.f1 o.f2 o.f3 o.f4 o.f5 key = some (v.f0, v.f1, v.f2, v.f3, v.f4, v.f5, true) ∧
      value_Get.f K o.f0 o.f1 o.f2 o.f3 o.f4 o.f5 other = some (q.f0, q.f1, q.f2, q.f3, q.f4, q.f5, is) ∧
      value_Get.f K 4 false 0 ⟨#[]⟩ [v] [] key = some (0, false, 0, ⟨#[]⟩, [], [], false) ∧ hogsheadlaw0_SameValue.f K v.f0 v.f1 v.f2 v.f3 v.f4 v.f5 v.f0 v.f1 v.f2 v.f3 v.f4 v.f5 100 = some true) :
    Calls Tryd.prog 8 #[.agg #[.int .i64 v.f0, .bool v.f1, .int .i64 v.f2, .string v.f3, .slice A4 v.f4.length c4, .slice A5 v.f5.length c5], .string key, .string other] w fun e w' => e = .returned (.bool true) ∧ Below w.heap.size w w' := by
  have X4 := Aside0.mk hr4
  have X5 := Aside0.mk hr5
  have HG := Aside0.mk hG
  have HA := Aside0.mk hA
  have HO := Aside0.mk hO
  have HM := Aside0.mk hM
  have HL := Aside0.mk hL
  have HC := Aside0.mk hC
  have Hm := Aside0.mk hm
  have hbk : decide (100 < (key.size : Int)) = false := by simp; omega
  have hbo : decide (100 < (other.size : Int)) = false := by simp; omega
  clear hr4 hr5 hG hA hk ho hO hM hL hC hm
  have HT0 := Aside0.mk (qBo w #[.int .i64 v.f0, .bool v.f1, .int .i64 v.f2, .string v.f3, .slice A4 v.f4.length c4, .slice A5 v.f5.length c5] #[.int .i64 v.f0, .bool v.f1, .int .i64 v.f2, .string v.f3, .slice A4 v.f4.length c4, .slice A5 v.f5.length c5] 25 25)
  have HB0 := Aside0.mk (qAd (qAd (Below.refl w.heap.size w) (.cells #[.int .i64 v.f0, .bool v.f1, .int .i64 v.f2, .string v.f3, .slice A4 v.f4.length c4, .slice A5 v.f5.length c5] 25)) (.cells #[.int .i64 v.f0, .bool v.f1, .int .i64 v.f2, .string v.f3, .slice A4 v.f4.length c4, .slice A5 v.f5.length c5] 25))
  go_enter Tryd.func8, Tryd.ntmps8
  go_wp2_with fail
  generalize (w.alloc (.cells #[.int .i64 v.f0, .bool v.f1, .int .i64 v.f2, .string v.f3, .slice A4 v.f4.length c4, .slice A5 v.f5.length c5] 25)).alloc (.cells #[.int .i64 v.f0, .bool v.f1, .int .i64 v.f2, .string v.f3, .slice A4 v.f4.length c4, .slice A5 v.f5.length c5] 25) = W0 at *
  have HX := Aside0.mk HT0.out.1
  have HGR := Aside0.mk (hogsheadlaw15_great.calls K (some ⟨w.heap.size + 1, 0, none⟩) 1 [v] false W0 (qB4 (d := k25) (x := v) HT0.out.2 (k25_mk W0 v hc4 (Kd.C_below X4.out HB0.out) hc5 (Kd.C_below X5.out HB0.out))) (Nat.le_refl _) HG.out)
  clear HT0 HG
  obtain ⟨HGR⟩ := HGR
  simp only [List.length_singleton] at HGR
  refine HGR.mono ?_
  clear HGR
  rintro e w2 ⟨rfl, hb2⟩
  have HB2 := Aside0.mk (qAi HB0.out hb2)
  have HX2 := Aside0.mk (qAj HX.out hb2)
  clear hb2 HB0 HX
  have HT2 := Aside0.mk (qBo w2 #[.string key] #[.int .i64 v.f0, .bool v.f1, .int .i64 v.f2, .string v.f3, .slice A4 v.f4.length c4, .slice A5 v.f5.length c5] 9 25)
  have HB3 := Aside0.mk (qAd (qAd HB2.out (.cells #[.string key] 9)) (.cells #[.int .i64 v.f0, .bool v.f1, .int .i64 v.f2, .string v.f3, .slice A4 v.f4.length c4, .slice A5 v.f5.length c5] 25))
  have x0 : ∀ ob_, (w2.alloc ob_).cell? ⟨w.heap.size, 0, none⟩ = some (.int .i64 v.f0) := fun ob_ => (qAm (blk_alloc' HX2.out ob_)).1
  have x1 : ∀ ob_, (w2.alloc ob_).cell? ⟨w.heap.size, 1, none⟩ = some (.bool v.f1) := fun ob_ => (qAm (blk_alloc' HX2.out ob_)).2.1
  have x2 : ∀ ob_, (w2.alloc ob_).cell? ⟨w.heap.size, 2, none⟩ = some (.int .i64 v.f2) := fun ob_ => (qAm (blk_alloc' HX2.out ob_)).2.2.1
  have x3 : ∀ ob_, (w2.alloc ob_).cell? ⟨w.heap.size, 3, none⟩ = some (.string v.f3) := fun ob_ => (qAm (blk_alloc' HX2.out ob_)).2.2.2.1
  have x4 : ∀ ob_, (w2.alloc ob_).cell? ⟨w.heap.size, 4, none⟩ = some (.slice A4 v.f4.length c4) := fun ob_ => (qAm (blk_alloc' HX2.out ob_)).2.2.2.2.1
  have x5 : ∀ ob_, (w2.alloc ob_).cell? ⟨w.heap.size, 5, none⟩ = some (.slice A5 v.f5.length c5) := fun ob_ => (qAm (blk_alloc' HX2.out ob_)).2.2.2.2.2
  have HX3 := Aside0.mk (blk_alloc' (blk_alloc' HX2.out (.cells #[.string key] 9)) (.cells #[.int .i64 v.f0, .bool v.f1, .int .i64 v.f2, .string v.f3, .slice A4 v.f4.length c4, .slice A5 v.f5.length c5] 25))
  go_wp2_with fail
  clear x0 x1 x2 x3 x4 x5 HX2 HB2
  generalize (w2.alloc (.cells #[.string key] 9)).alloc (.cells #[.int .i64 v.f0, .bool v.f1, .int .i64 v.f2, .string v.f3, .slice A4 v.f4.length c4, .slice A5 v.f5.length c5] 25) = W3 at *
  have HOF := Aside0.mk (value_Of.calls K (some ⟨w2.heap.size, 0, none⟩) 1 [key] (some ⟨w2.heap.size + 1, 0, none⟩) 1 [v] o.f0 o.f1 o.f2 o.f3 o.f4 o.f5 W3 (qB4 (d := Kd.string) (cs := [.string key]) HT2.out.1 rfl) (Nat.le_refl _) (qB4 (d := k25) HT2.out.2 (k25_mk W3 v hc4 (Kd.C_below X4.out HB3.out) hc5 (Kd.C_below X5.out HB3.out))) (Nat.le_refl _) HO.out)
  clear HT2 HO
  obtain ⟨HOF⟩ := HOF
  simp only [List.length_singleton] at HOF
  refine HOF.mono ?_
  clear HOF
  rintro e w4 ⟨u4, u5, rfl, hu4, hu5, hb4⟩
  obtain ⟨B4, d4, rfl, e4, g4⟩ := Kd.R_reads hu4
  obtain ⟨B5, d5, rfl, e5, g5⟩ := Kd.R_reads hu5
  have HB4 := Aside0.mk (qAi HB3.out hb4)
  have HX4 := Aside0.mk (qAj HX3.out hb4)
  have G4 := Aside0.mk g4
  have G5 := Aside0.mk g5
  clear hu4 hu5 hb4 g4 g5 HB3 HX3
  have HB5 := Aside0.mk (qAd HB4.out (.cells #[.int .i64 o.f0, .bool o.f1, .int .i64 o.f2, .string o.f3, .slice B4 o.f4.length d4, .slice B5 o.f5.length d5] 25))
  have HX5 := Aside0.mk (blk_alloc' HX4.out (.cells #[.int .i64 o.f0, .bool o.f1, .int .i64 o.f2, .string o.f3, .slice B4 o.f4.length d4, .slice B5 o.f5.length d5] 25))
  have HO5 := Aside0.mk (qA8 w4 (.cells #[.int .i64 o.f0, .bool o.f1, .int .i64 o.f2, .string o.f3, .slice B4 o.f4.length d4, .slice B5 o.f5.length d5] 25))
  have x0 : ∀ ob_, (w4.alloc ob_).cell? ⟨w.heap.size, 0, none⟩ = some (.int .i64 v.f0) := fun ob_ => (qAm (blk_alloc' HX4.out ob_)).1
  have x1 : ∀ ob_, (w4.alloc ob_).cell? ⟨w.heap.size, 1, none⟩ = some (.bool v.f1) := fun ob_ => (qAm (blk_alloc' HX4.out ob_)).2.1
  have x2 : ∀ ob_, (w4.alloc ob_).cell? ⟨w.heap.size, 2, none⟩ = some (.int .i64 v.f2) := fun ob_ => (qAm (blk_alloc' HX4.out ob_)).2.2.1
  have x3 : ∀ ob_, (w4.alloc ob_).cell? ⟨w.heap.size, 3, none⟩ = some (.string v.f3) := fun ob_ => (qAm (blk_alloc' HX4.out ob_)).2.2.2.1
  have x4 : ∀ ob_, (w4.alloc ob_).cell? ⟨w.heap.size, 4, none⟩ = some (.slice A4 v.f4.length c4) := fun ob_ => (qAm (blk_alloc' HX4.out ob_)).2.2.2.2.1
  have x5 : ∀ ob_, (w4.alloc ob_).cell? ⟨w.heap.size, 5, none⟩ = some (.slice A5 v.f5.length c5) := fun ob_ => (qAm (blk_alloc' HX4.out ob_)).2.2.2.2.2
  go_wp2_with fail
  clear x0 x1 x2 x3 x4 x5 HX4 HB4
  have P4 := Aside0.mk (Kd.C_below G4.out (qAd (Below.refl w4.heap.size w4) (.cells #[.int .i64 o.f0, .bool o.f1, .int .i64 o.f2, .string o.f3, .slice B4 o.f4.length d4, .slice B5 o.f5.length d5] 25)))
  have P5 := Aside0.mk (Kd.C_below G5.out (qAd (Below.refl w4.heap.size w4) (.cells #[.int .i64 o.f0, .bool o.f1, .int .i64 o.f2, .string o.f3, .slice B4 o.f4.length d4, .slice B5 o.f5.length d5] 25)))
  clear G4 G5
  generalize w4.alloc (.cells #[.int .i64 o.f0, .bool o.f1, .int .i64 o.f2, .string o.f3, .slice B4 o.f4.length d4, .slice B5 o.f5.length d5] 25) = W5 at *
  generalize w4.heap.size = gb at *
  refine (value_May.calls v.f0 v.f1 v.f2 v.f3 A4 c4 v.f4 A5 c5 v.f5 m W5 (Kd.C_below X4.out HB5.out) hc4 (Kd.C_below X5.out HB5.out) hc5 HM.out).mono ?_
  rintro e w6 ⟨rfl, hb6⟩
  have HB6 := Aside0.mk (qAi HB5.out hb6)
  have HX6 := Aside0.mk (qAj HX5.out hb6)
  have HO6 := Aside0.mk (qAj HO5.out hb6)
  have Q4 := Aside0.mk (Kd.C_below P4.out hb6)
  have Q5 := Aside0.mk (Kd.C_below P5.out hb6)
  clear hb6 HX5 HO5 P4 P5 HM HB5
  obtain ⟨x0, x1, x2, x3, x4, x5⟩ := qAm HX6.out
  obtain ⟨y0, y1, y2, y3, y4, y5⟩ := qAm HO6.out
  cases m with
  | false =>
    have hz : (o.f0 == 0) = true := beq_iff_eq.2 (Hm.out rfl)
    go_wp2_with (go_at_call 15; refine (hogsheadlaw15_awake.calls K true _ ⟨Tabs.below hT.out HB6.out⟩ HA.out).mono ?_; rintro e w7 ⟨rfl, hb7⟩; have HB7 := Aside0.mk (qAi HB6.out hb7); clear hb7)
    go_ret
    exact ⟨rfl, HB7.out⟩
  | true =>
    by_cases h5 : o.f0 = 5
    · have h5a : (o.f0 != 5) = false := by rw [h5]; rfl
      obtain ⟨C1, C2, C3, C4⟩ := HC.out rfl h5
      have D1 := Aside0.mk C1
      have D2 := Aside0.mk C2
      have D3 := Aside0.mk C3
      have D4 := Aside0.mk C4
      clear C1 C2 C3 C4 HC HL Hm h5
      go_wp2_with fail
      refine (value_Get.calls K o.f0 o.f1 o.f2 o.f3 B4 d4 o.f4 B5 d5 o.f5 key v.f0 v.f1 v.f2 v.f3 v.f4 v.f5 true w6 Q4.out e4 Q5.out e5 D1.out).mono ?_
      rintro e w7 ⟨u4, u5, rfl, hu4, hu5, hb7⟩
      obtain ⟨E4, n4, rfl, l4, g4⟩ := Kd.R_reads hu4
      obtain ⟨E5, n5, rfl, l5, g5⟩ := Kd.R_reads hu5
      have HB7 := Aside0.mk (qAi HB6.out hb7)
      have HX7 := Aside0.mk (qAj HX6.out hb7)
      have HO7 := Aside0.mk (qAj HO6.out hb7)
      have b8 := qAd (Below.refl w7.heap.size w7) (.cells #[.int .i64 v.f0, .bool v.f1, .int .i64 v.f2, .string v.f3, .slice E4 v.f4.length n4, .slice E5 v.f5.length n5] 25)
      have R4 := Aside0.mk (Kd.C_below Q4.out (qAi hb7 b8))
      have R5 := Aside0.mk (Kd.C_below Q5.out (qAi hb7 b8))
      have J4 := Aside0.mk (Kd.C_below g4 b8)
      have J5 := Aside0.mk (Kd.C_below g5 b8)
      have HB8 := Aside0.mk (qAi HB7.out b8)
      have HX8 := Aside0.mk (qAj HX7.out b8)
      have HO8 := Aside0.mk (qAj HO7.out b8)
      have HW8 := Aside0.mk (qA8 w7 (.cells #[.int .i64 v.f0, .bool v.f1, .int .i64 v.f2, .string v.f3, .slice E4 v.f4.length n4, .slice E5 v.f5.length n5] 25))
      clear x0 x1 x2 x3 x4 x5 y0 y1 y2 y3 y4 y5 hu4 hu5 hb7 g4 g5 b8 Q4 Q5 HB6 HX6 HO6 HB7 HX7 D1
      have y0 : ∀ ob_, (w7.alloc ob_).cell? ⟨gb, 0, none⟩ = some (.int .i64 o.f0) := fun ob_ => (qAm (blk_alloc' HO7.out ob_)).1
      have y1 : ∀ ob_, (w7.alloc ob_).cell? ⟨gb, 1, none⟩ = some (.bool o.f1) := fun ob_ => (qAm (blk_alloc' HO7.out ob_)).2.1
      have y2 : ∀ ob_, (w7.alloc ob_).cell? ⟨gb, 2, none⟩ = some (.int .i64 o.f2) := fun ob_ => (qAm (blk_alloc' HO7.out ob_)).2.2.1
      have y3 : ∀ ob_, (w7.alloc ob_).cell? ⟨gb, 3, none⟩ = some (.string o.f3) := fun ob_ => (qAm (blk_alloc' HO7.out ob_)).2.2.2.1
      have y4 : ∀ ob_, (w7.alloc ob_).cell? ⟨gb, 4, none⟩ = some (.slice B4 o.f4.length d4) := fun ob_ => (qAm (blk_alloc' HO7.out ob_)).2.2.2.2.1
      have y5 : ∀ ob_, (w7.alloc ob_).cell? ⟨gb, 5, none⟩ = some (.slice B5 o.f5.length d5) := fun ob_ => (qAm (blk_alloc' HO7.out ob_)).2.2.2.2.2
      go_wp2_with fail
      clear y0 y1 y2 y3 y4 y5 HO7
      generalize w7.alloc (.cells #[.int .i64 v.f0, .bool v.f1, .int .i64 v.f2, .string v.f3, .slice E4 v.f4.length n4, .slice E5 v.f5.length n5] 25) = W8 at *
      generalize w7.heap.size = gx at *
      refine (value_Get.calls K o.f0 o.f1 o.f2 o.f3 B4 d4 o.f4 B5 d5 o.f5 other q.f0 q.f1 q.f2 q.f3 q.f4 q.f5 is W8 R4.out e4 R5.out e5 D2.out).mono ?_
      rintro e w9 ⟨u4, u5, rfl, hu4, hu5, hb9⟩
      obtain ⟨F4, m4, rfl⟩ := Kd.R_slice hu4
      obtain ⟨F5, m5, rfl⟩ := Kd.R_slice hu5
      have HX9 := Aside0.mk (qAj HX8.out hb9)
      have b10 := qAd (qAd (Below.refl w9.heap.size w9) (.cells #[.int .i64 q.f0, .bool q.f1, .int .i64 q.f2, .string q.f3, .slice F4 q.f4.length m4, .slice F5 q.f5.length m5] 25)) (.cells #[.int .i64 v.f0, .bool v.f1, .int .i64 v.f2, .string v.f3, .slice A4 v.f4.length c4, .slice A5 v.f5.length c5] 25)
      have HT9 := Aside0.mk (qBo w9 #[.int .i64 q.f0, .bool q.f1, .int .i64 q.f2, .string q.f3, .slice F4 q.f4.length m4, .slice F5 q.f5.length m5] #[.int .i64 v.f0, .bool v.f1, .int .i64 v.f2, .string v.f3, .slice A4 v.f4.length c4, .slice A5 v.f5.length c5] 25 25)
      have HB10 := Aside0.mk (qAi (qAi HB8.out hb9) b10)
      have HX10 := Aside0.mk (qAj HX9.out b10)
      have HW10 := Aside0.mk (qAj (qAj HW8.out hb9) b10)
      have S4 := Aside0.mk (Kd.C_below J4.out (qAi hb9 b10))
      have S5 := Aside0.mk (Kd.C_below J5.out (qAi hb9 b10))
      clear hu4 hu5 hb9 b10 R4 R5 J4 J5 HB8 HX8 HO8 HW8 D2
      have x0 : ∀ ob_, (w9.alloc ob_).cell? ⟨w.heap.size, 0, none⟩ = some (.int .i64 v.f0) := fun ob_ => (qAm (blk_alloc' HX9.out ob_)).1
      have x1 : ∀ ob_, (w9.alloc ob_).cell? ⟨w.heap.size, 1, none⟩ = some (.bool v.f1) := fun ob_ => (qAm (blk_alloc' HX9.out ob_)).2.1
      have x2 : ∀ ob_, (w9.alloc ob_).cell? ⟨w.heap.size, 2, none⟩ = some (.int .i64 v.f2) := fun ob_ => (qAm (blk_alloc' HX9.out ob_)).2.2.1
      have x3 : ∀ ob_, (w9.alloc ob_).cell? ⟨w.heap.size, 3, none⟩ = some (.string v.f3) := fun ob_ => (qAm (blk_alloc' HX9.out ob_)).2.2.2.1
      have x4 : ∀ ob_, (w9.alloc ob_).cell? ⟨w.heap.size, 4, none⟩ = some (.slice A4 v.f4.length c4) := fun ob_ => (qAm (blk_alloc' HX9.out ob_)).2.2.2.2.1
      have x5 : ∀ ob_, (w9.alloc ob_).cell? ⟨w.heap.size, 5, none⟩ = some (.slice A5 v.f5.length c5) := fun ob_ => (qAm (blk_alloc' HX9.out ob_)).2.2.2.2.2
      go_wp2_with fail
      clear x0 x1 x2 x3 x4 x5 HX9
      generalize (w9.alloc (.cells #[.int .i64 q.f0, .bool q.f1, .int .i64 q.f2, .string q.f3, .slice F4 q.f4.length m4, .slice F5 q.f5.length m5] 25)).alloc (.cells #[.int .i64 v.f0, .bool v.f1, .int .i64 v.f2, .string v.f3, .slice A4 v.f4.length c4, .slice A5 v.f5.length c5] 25) = W10 at *
      have HG3 := Aside0.mk (value_Get.calls K 4 false 0 ⟨#[]⟩ (some ⟨w9.heap.size + 1, 0, none⟩) 1 [v] none 0 [] key 0 false 0 ⟨#[]⟩ [] [] false W10 (qB4 (d := k25) HT9.out.2 (k25_mk W10 v hc4 (Kd.C_below X4.out HB10.out) hc5 (Kd.C_below X5.out HB10.out))) (Nat.le_refl _) (Kd.C_nil _ _) (Nat.le_refl _) D3.out)
      clear HT9 D3
      obtain ⟨HG3⟩ := HG3
      simp only [List.length_singleton, List.length_nil] at HG3
      refine HG3.mono ?_
      clear HG3
      rintro e w11 ⟨u4, u5, rfl, hu4, hu5, hb11⟩
      obtain ⟨Z4, k4, rfl⟩ := Kd.R_slice hu4
      obtain ⟨Z5, k5, rfl⟩ := Kd.R_slice hu5
      simp only [List.length_nil]
      have b12 := qAd (Below.refl w11.heap.size w11) (.cells #[.int .i64 0, .bool false, .int .i64 0, .string ⟨#[]⟩, .slice Z4 0 k4, .slice Z5 0 k5] 25)
      have HB12 := Aside0.mk (qAi (qAi HB10.out hb11) b12)
      have HX12 := Aside0.mk (qAj (qAj HX10.out hb11) b12)
      have HW12 := Aside0.mk (qAj (qAj HW10.out hb11) b12)
      have T4 := Aside0.mk (Kd.C_below S4.out (qAi hb11 b12))
      have T5 := Aside0.mk (Kd.C_below S5.out (qAi hb11 b12))
      obtain ⟨x0, x1, x2, x3, x4, x5⟩ := qAm HX12.out
      obtain ⟨y0, y1, y2, y3, y4, y5⟩ := qAm HW12.out
      clear hu4 hu5 hb11 b12 S4 S5 HB10 HX10 HW10
      go_wp2_with fail
      refine (hogsheadlaw0_SameValue.calls K v.f0 v.f1 v.f2 v.f3 E4 n4 v.f4 E5 n5 v.f5 v.f0 v.f1 v.f2 v.f3 A4 c4 v.f4 A5 c5 v.f5 100 true _ T4.out l4 T5.out l5 (Kd.C_below X4.out HB12.out) hc4 (Kd.C_below X5.out HB12.out) hc5 D4.out).mono ?_
      rintro e w13 ⟨rfl, hb13⟩
      have HB6 := Aside0.mk (qAi HB12.out hb13)
      clear hb13 HB12 HX12 HW12 T4 T5 x0 x1 x2 x3 x4 x5 y0 y1 y2 y3 y4 y5 D4
      have hii : (is == is) = true := by simp
      go_wp2_with (go_at_call 15; refine (hogsheadlaw15_awake.calls K true _ ⟨Tabs.below hT.out HB6.out⟩ HA.out).mono ?_; rintro e w7 ⟨rfl, hb7⟩; have HB7 := Aside0.mk (qAi HB6.out hb7); clear hb7)
      go_ret
      exact ⟨rfl, HB7.out⟩
    · obtain ⟨h0, hl, hs⟩ := HL.out rfl h5
      have h5a : (o.f0 != 5) = true := by simpa using h5
      have hz : (o.f0 == 0) = true := beq_iff_eq.2 h0
      have h30 : decide (30 ≤ (s.size : Int)) = true := by simp; omega
      have D1 := Aside0.mk hl
      clear h0 h5 hl hs HC HL Hm
      go_wp2_with (first | (go_at_call 16; refine (value_Lay.calls K v.f0 v.f1 v.f2 v.f3 A4 c4 v.f4 A5 c5 v.f5 s 0 _ ⟨Tabs.below hT.out HB6.out⟩ (Kd.C_below X4.out HB6.out) hc4 (Kd.C_below X5.out HB6.out) hc5 D1.out).mono ?_; rintro e w8 ⟨rfl, hb8⟩; have HN := Aside0.mk (qAi HB6.out hb8); have HON := Aside0.mk (qAj HO6.out hb8); clear y0 y1 y2 y3 y4 y5 x0 x1 x2 x3 x4 x5 HO6 HB6 hb8; have HB6 := HN; have HO6 := HON; clear HN HON; obtain ⟨y0, y1, y2, y3, y4, y5⟩ := qAm HO6.out) | (go_at_call 15; refine (hogsheadlaw15_awake.calls K true _ ⟨Tabs.below hT.out HB6.out⟩ HA.out).mono ?_; rintro e w7 ⟨rfl, hb7⟩; have HB7 := Aside0.mk (qAi HB6.out hb7); clear hb7))
      go_ret
      exact ⟨rfl, HB7.out⟩
end Go.Proofs.YtbnoihpooeombaaDoor.X

namespace Go.Proofs.YtbnoihpooeombaaDoor.X
open Go.RowKit Go.Proofs.YtbnoihpooeombaaDoorW.PrintWords Go.Proofs.YtbnoihpooeombaaDoor.P
set_option linter.unusedVariables false
set_option linter.unusedSimpArgs false
theorem qEk : ∀ (d : Nat) (x : S25), goodV (d + 1) x = true → goodV d x = false → 2 * d ≤ (textI (d + 1) x).length
  | 0, _, _, _ => by omega
  | d + 1, x, h, h' => by
    obtain ⟨hf, hc⟩ := qB7 h
    rw [goodV, hf, Bool.true_and] at h'
    obtain ⟨y, hy, hy'⟩ : ∃ y ∈ x.f4, goodV d y = false := by
      by_cases e : ∃ y ∈ x.f4, goodV d y = false
      · exact e
      · rw [List.all_eq_true.2 (fun y hy => by cases g : goodV d y with | true => rfl | false => exact (e ⟨y, hy, g⟩).elim)] at h'
        cases h'
    have ih := qEk d y (hc y hy) hy'
    have ff := qB2 hf
    by_cases h4 : x.f0 = 4
    · rw [text_4 _ x h4]
      have := qB1 44 (x.f4.map (textI (d + 1))) _ (List.mem_map.2 ⟨y, hy, rfl⟩)
      simp only [List.length_cons, List.length_append, List.length_nil]
      omega
    · by_cases h5 : x.f0 = 5
      · rw [text_5 _ x h5]
        have hl := ff.2.2.2.2.1 h5
        obtain ⟨i, hi, hiy⟩ := List.getElem_of_mem hy
        have hm : ((x.f5[i]'(by omega)), y) ∈ x.f5.zip x.f4 := by
          rw [← hiy, ← List.getElem_zip (h := by rw [List.length_zip]; omega)]
          exact List.getElem_mem _
        have := qB1 44 (qAq (textI (d + 1)) true x.f4 x.f5) (quoteL (x.f5[i]'(by omega)) ++ 58 :: textI (d + 1) y) (by
          rw [qDk _ _ _ hl]
          exact List.mem_map.2 ⟨_, hm, rfl⟩)
        rw [List.length_append, List.length_cons] at this
        simp only [List.length_cons, List.length_append, List.length_nil]
        omega
      · rw [ff.2.2.2.2.2.2.2.2.1 h4 h5] at hy
        cases hy
theorem one_T {v : S25} {key : ByteArray} (h : Small 60 v) (hk : key.size ≤ 100) : T 61 4000 (objV [key] [v]) := by
  refine ⟨⟨show (⟨#[]⟩ : ByteArray).size ≤ 100 by decide, show [key].length ≤ 100 by simp, ?_, ?_⟩, ?_⟩
  · intro s hs
    rw [List.mem_singleton.1 hs]
    exact hk
  · intro y hy
    rw [List.mem_singleton.1 hy]
    exact h.1
  · have := h.2
    show 1 + ([v].map (nodesV 60)).sum ≤ 4000
    rw [List.map_singleton, List.sum_singleton]
    omega
theorem qCn (key : ByteArray) : qAv [key] = true := rfl
theorem qDw (key other : ByteArray) : isK [key] other = decide (other = key) := by
  rw [Bool.eq_iff_iff, qDx _ _ (qCn key), decide_eq_true_eq, List.mem_singleton]
theorem qFf (key : ByteArray) : posK [key] key = 0 := by
  have := (isK_lt (by rw [qDw]; simp : isK [key] key = true)).1
  simpa using this
theorem qFg (v : S25) (key : ByteArray) : goodV 16 (objV [key] [v]) = goodV 15 v := by
  rw [qGh [key] [v] 15 rfl (qCn key)]
  simp
theorem one_of {v : S25} {key : ByteArray} (h : Small 60 v) (hk : key.size ≤ 100) : Ev (fun k => value_Of.f k [key] [v]) (let o := if goodV 15 v = true then objV [key] [v] else nilV; (o.f0, o.f1, o.f2, o.f3, o.f4, o.f5)) := by
  have h1 := of_val [key] [v] (by simp)
  rw [qDm [key] [v] [] [] (qCn key) rfl rfl] at h1
  have hm : (mayV 16 ⟨5, false, 0, ByteArray.empty, [v], [key]⟩ 0).2 = goodV 15 v := (qB0 61 _ (one_T h hk)).trans (qFg v key)
  unfold ofR at h1
  rw [show ([] : List ByteArray) ++ [key] = [key] from rfl, show ([] : List S25) ++ [v] = [v] from rfl, hm] at h1
  cases g : goodV 15 v with
  | true => rw [g, if_pos rfl] at h1; exact h1
  | false => rw [g, if_neg (by decide)] at h1; exact h1
theorem qC1 (v : S25) (key other : ByteArray) (A4 : Option Addr) (c4 : Nat) (A5 : Option Addr) (c5 : Nat) (w : World) (hT : Aside0 (Tabs w))
    (hr4 : k25.C w A4 v.f4.length v.f4) (hc4 : v.f4.length ≤ c4) (hr5 : Kd.C Kd.string w A5 v.f5.length v.f5) (hc5 : v.f5.length ≤ c5) :
    Calls Tryd.prog 8 #[.agg #[.int .i64 v.f0, .bool v.f1, .int .i64 v.f2, .string v.f3, .slice A4 v.f4.length c4, .slice A5 v.f5.length c5], .string key, .string other] w fun e w' => e = .returned (.bool true) ∧ Below w.heap.size w w' := by
  obtain ⟨K1, hA⟩ := qDo
  obtain ⟨g, ⟨K2, hG⟩, hS⟩ := qFw [v]
  by_cases hb : g = true ∨ 100 < key.size ∨ 100 < other.size
  · exact qFx (K1 + K2) v key other A4 c4 A5 c5 g w hT hr4 hc4 hr5 hc5 (hG _ (by omega)) (hA _ (by omega)) hb
  · have hg : g = false := by cases g with | false => rfl | true => exact (hb (.inl rfl)).elim
    subst hg
    have hk : key.size ≤ 100 := by omega
    have ho : other.size ≤ 100 := by omega
    have hv : Small 60 v := (hS rfl).2 v (List.mem_singleton.2 rfl)
    have hT1 := qHn hv
    have hT2 := one_T hv hk
    obtain ⟨K3, hO⟩ := one_of hv hk
    obtain ⟨K4, hL⟩ := qGn hT1
    obtain ⟨K5, hC1⟩ := qE5 key hT2
    obtain ⟨K6, hC2⟩ := qE5 other hT2
    obtain ⟨K7, hC4⟩ := qDf 60 (by omega) v ⟨hv.1, by have := hv.2; omega⟩
    have hI : (other.toList == key.toList) = decide (other = key) := by
      rw [Bool.eq_iff_iff, beq_iff_eq, decide_eq_true_eq, qBd]
    refine qGp (K1 + K2 + K3 + K4 + K5 + K6 + K7) v (if goodV 15 v = true then objV [key] [v] else nilV) (goodV 16 v) (decide (other = key)) (textB 16 v) (if other = key then v else nilV) key other A4 c4 A5 c5 w hT hr4 hc4 hr5 hc5 (hG _ (by omega)) (hA _ (by omega)) hk ho (hO _ (by omega)) (qDu hT1) hI ?_ ?_ ?_
    · intro h
      have h15 : goodV 15 v = false := by
        cases e : goodV 15 v with
        | false => rfl
        | true => rw [(qCy 15 v e).1] at h; cases h
      rw [h15]; rfl
    · intro h h5
      have h15 : goodV 15 v = false := by
        cases e : goodV 15 v with
        | false => rfl
        | true => rw [e] at h5; exact (h5 rfl).elim
      refine ⟨by rw [h15]; rfl, ?_, ?_⟩
      · have := hL (K1 + K2 + K3 + K4 + K5 + K6 + K7) (by omega)
        rw [if_pos h] at this
        exact this
      · have := qEk 15 v h h15
        rw [textB, qBx]
        omega
    · intro h h5
      have h15 : goodV 15 v = true := by
        cases e : goodV 15 v with
        | true => rfl
        | false => rw [e, if_neg (by decide)] at h5; exact absurd (show (0 : Int) = 5 from h5) (by decide)
      have hgo : goodV 16 (objV [key] [v]) = true := (qFg v key).trans h15
      rw [if_pos h15]
      refine ⟨?_, ?_, ?_, hC4 _ (by omega)⟩
      · have := hC1 (K1 + K2 + K3 + K4 + K5 + K6 + K7) (by omega)
        rw [getV, if_pos ⟨rfl, hgo, (qDw key key).trans (by simp)⟩] at this
        have hp : (objV [key] [v]).f4[posK (objV [key] [v]).f5 key]? = some v := by
          show [v][posK [key] key]? = some v
          rw [qFf]; rfl
        rw [hp] at this
        exact this
      · have := hC2 (K1 + K2 + K3 + K4 + K5 + K6 + K7) (by omega)
        by_cases e : other = key
        · subst e
          rw [getV, if_pos ⟨rfl, hgo, (qDw other other).trans (by simp)⟩] at this
          have hp : (objV [other] [v]).f4[posK (objV [other] [v]).f5 other]? = some v := by
            show [v][posK [other] other]? = some v
            rw [qFf]; rfl
          rw [hp] at this
          rw [if_pos rfl, decide_eq_true (rfl : other = other)]
          exact this
        · rw [getV, if_neg (fun c => by
            have h3 : isK [key] other = true := c.2.2
            rw [qDw, decide_eq_true_eq] at h3
            exact e h3)] at this
          rw [if_neg e, decide_eq_false e]
          exact this
      · unfold value_Get.f
        rw [if_neg (by decide)]
        rfl
end Go.Proofs.YtbnoihpooeombaaDoor.X
